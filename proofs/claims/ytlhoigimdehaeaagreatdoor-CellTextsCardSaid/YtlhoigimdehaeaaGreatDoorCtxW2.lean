/- The code computes the plain functions: proofs written by shal.py. -/
import Derived.Test.YtlhoigimdehaeaaGreatDoorCtxW1
set_option maxRecDepth 100000
set_option linter.unusedVariables false
set_option linter.unusedSimpArgs false
namespace Go.Proofs.YtlhoigimdehaeaaGreatDoor
open Go Go.Eng Go.Proofs Go.Beacon
attribute [local irreducible] ARun ATodo AQ QV ACall ImpX AWp AM
set_option maxHeartbeats 4000000 in
theorem strings_genSplit_c [GI : GTab] {p0x0 : Str} {p1x0 : Str} {p2x0 : Int} {p3x0 : Int} {r : (List Str)} (h : strings_genSplit p0x0 p1x0 p2x0 p3x0 = some r) : ACall Tryz.prog 131 [.str p0x0, .str p1x0, I p2x0, I p3x0] [] (T1 (fun d_0 => [(d_0, .arr 1 (r.map AV.str))]) (fun d_0 => .sl 1 d_0 0 r.length)) := by
  unfold strings_genSplit at h
  refine ACall.lessH ?_
  refine ACall.bodyN Tryz.func131 rfl Tryz.ntmps131 Tryz.results131 rfl rfl ?_
  refine tSR <| rA rfl rfl <| rN <| tS <| tSR <| rM rfl rfl <| ARun.qv (q_eql rfl rfl) rfl <| rN <| ATodo.cond_d rfl (fun hc => ?_) (fun hc => ?_)
  · refine have h := iteT hc h; tSR <| rA rfl rfl <| rN <| ATodo.ret <| ?_
    obtain rfl := Option.some.inj h
    exact ImpX.arr (s := 8) 1 rfl fun b1 => ImpX.here ⟨_, .cons (.tmp _ _ rfl) .nil, _, .cons .p0 .nil, ⟨b1, rfl, rfl⟩⟩
  · refine have h := iteF hc h; tK <| tS <| tSR <| rM rfl rfl <| ARun.qv (q_seq rfl rfl) rfl <| rN <| ATodo.cond_d rfl (fun hc => ?_) (fun hc => ?_)
    · refine have h := iteT hc h; tSR <| rM rfl rfl <| rM rfl rfl <| bndE h fun v2 e1 h => t_call1 rfl (strings_explode_c e1) (CoL.refl _) .nil (fun _ => rfl) rfl fun b3 => rA rfl rfl <| rN <| ATodo.ret <| ?_
      obtain rfl := Option.some.inj h
      exact ImpX.here ⟨_, .cons (.tmp _ _ rfl) .nil, _, .cons .p0 .nil, ⟨b3, rfl, rfl⟩⟩
    · refine have h := iteF hc h; tK <| tS <| tSR <| rM rfl rfl <| ARun.qv (q_lss rfl rfl) rfl <| rN <| ATodo.cut (fun σ' => ∃ (n4 : Int), strings_genSplit_j1 p0x0 p1x0 p2x0 n4 = some r ∧ σ' = ⟨66, [(0, .str p0x0), (1, .str p1x0), (2, I p2x0), (3, I n4)], []⟩) ?_ ?_
      · refine ATodo.cond_d rfl (fun hc => ?_) (fun hc => ?_)
        · exact have h := iteT hc h; tR <| rM rfl rfl <| rM rfl rfl <| bndE h fun v5 e2 h => r_callp rfl (strings_Count_c e2) (CoL.refl _) rfl <| ARun.qv (q_addw rfl rfl) rfl <| rA rfl rfl <| rN <| ATodo.stop <| ImpX.lq [] ⟨w64 (v5 + (1 : Int)), h, rfl⟩ rfl rfl
        · exact have h := iteF hc h; tK <| ATodo.stop <| ImpX.lq [] ⟨p3x0, h, rfl⟩ rfl rfl
      · rintro σ' ⟨n4, h, rfl⟩
        unfold strings_genSplit_j1 at h
        refine tSR <| rM rfl rfl <| rM rfl rfl <| ARun.qv (q_len_str rfl) rfl <| ARun.qv (q_addw rfl rfl) rfl <| ARun.qv (q_min rfl rfl) rfl <| rA rfl rfl <| rN <| tSR <| rM rfl rfl <| bndE h fun l6 e3 h => t_makeSlice (g := AV.str) (Z := []) rfl rfl rfl rfl rfl rfl rfl rfl rfl e3 fun b7 => rA rfl rfl <| rN <| tSR <| rM rfl rfl <| ARun.qv (q_subw rfl rfl) rfl <| rA rfl rfl <| rN <| tSR <| rA rfl rfl <| rN <| tS <| ATodo.cut (fun σ' => ∃ (q8 : Str) (l9 : List Str) (n10 : Int), strings_genSplit_j2 q8 l9 n10 = some r ∧ σ' = ⟨66, [(0, .str q8), (9, .sl 1 b7 0 l9.length), (10, I n10)], [(b7, .arr 1 (l9.map AV.str))]⟩) ?_ ?_
        · refine ATodo.block <| ATodo.loopI (fun x : Str × (List Str) × Int => strings_genSplit_b1 p0x0 p1x0 p2x0 n4 x.1 x.2.1 x.2.2) (fun x σ' => σ' = ⟨66, [(0, .str x.1), (1, .str p1x0), (2, I p2x0), (3, I (w64 ((min n4 (w64 ((p0x0.length : Int) + (1 : Int)))) - (1 : Int)))), (9, .sl 1 b7 0 x.2.1.length), (10, I x.2.2)], [(b7, .arr 1 (x.2.1.map AV.str))]⟩) h ?_ ?_
          · exact ImpX.lq [0] rfl rfl rfl
          · intro x z1 σ' J1 hmk h hJ1 hA1
            obtain ⟨q14, l15, n16⟩ := x
            obtain rfl := hmk
            replace h : strings_genSplit_b1 p0x0 p1x0 p2x0 n4 q14 l15 n16 = some z1 := h
            unfold strings_genSplit_b1 at h
            refine tS <| tSR <| rM rfl rfl <| rM rfl rfl <| ARun.qv (q_lss rfl rfl) rfl <| rN <| ATodo.cond_d rfl (fun hc => ?_) (fun hc => ?_)
            · refine have h := iteT hc h; tK <| ATodo.block <| tSR <| rM rfl rfl <| rM rfl rfl <| bndE h fun v17 e4 h => r_callp rfl (strings_Index_c e4) (CoL.refl _) rfl <| rA rfl rfl <| rN <| tS <| tSR <| rM rfl rfl <| ARun.qv (q_lss rfl rfl) rfl <| rN <| ATodo.cond_d rfl (fun hc => ?_) (fun hc => ?_)
              · exact have h := iteT hc h; ATodo.exit rfl <| have h := outL h hA1; ATodo.stop <| ImpX.lq [0] ⟨q14, l15, n16, h, rfl⟩ rfl rfl
              · refine have h := iteF hc h; tK <| tSR <| rM rfl rfl <| rM rfl rfl <| rM rfl rfl <| rM rfl rfl <| rM rfl rfl <| ARun.qv (q_addw rfl rfl) rfl <| bndE h fun l18 e5 h => ARun.qv (t_slice_str rfl .none (.some _ _ _ rfl) rfl rfl e5) rfl <| bndE h fun v19 e6 h => ARun.qv (t_index_sl rfl rfl rfl e6) rfl <| t_store_aptr1 (g := AV.str) (el' := l18) rfl rfl rfl rfl e6 rfl .p0 rfl <| ARun.ghost <| ImpX.eqs (s := 9) (av' := .sl 1 b7 0 (l15.set n16.toNat l18).length) rfl (by rw [List.length_set]) <| ImpX.here <| ARun.ghost <| ImpX.eqs (s := 42) (av' := .sl 1 b7 0 (l15.set n16.toNat l18).length) rfl (by rw [List.length_set]) <| ImpX.here <| rN <| tSR <| rM rfl rfl <| rM rfl rfl <| rM rfl rfl <| ARun.qv (q_len_str rfl) rfl <| ARun.qv (q_addw rfl rfl) rfl <| bndE h fun l20 e7 h => ARun.qv (t_slice_str rfl (.some _ _ _ rfl) .none rfl rfl e7) rfl <| rA rfl rfl <| rN <| tR <| rM rfl rfl <| ARun.qv (q_addw rfl rfl) rfl <| rA rfl rfl <| rN <| ATodo.blk <| ATodo.stop <| ?_
                obtain rfl := Option.some.inj h
                exact hJ1 _ _ rfl <| ImpX.lq [0] rfl rfl rfl
            · exact have h := iteF hc h; ATodo.exit rfl <| have h := outL h hA1; ATodo.stop <| ImpX.lq [0] ⟨q14, l15, n16, h, rfl⟩ rfl rfl
        · rintro σ' ⟨q8, l9, n10, h, rfl⟩
          unfold strings_genSplit_j2 at h
          refine tSR <| rM rfl rfl <| rM rfl rfl <| rM rfl rfl <| bndE h fun v21 e8 h => ARun.qv (t_index_sl rfl rfl rfl e8) rfl <| t_store_aptr1 (g := AV.str) (el' := q8) rfl rfl rfl rfl e8 rfl .p0 rfl <| ARun.ghost <| ImpX.eqs (s := 9) (av' := .sl 1 b7 0 (l9.set n10.toNat q8).length) rfl (by rw [List.length_set]) <| ImpX.here <| ARun.ghost <| ImpX.eqs (s := 58) (av' := .sl 1 b7 0 (l9.set n10.toNat q8).length) rfl (by rw [List.length_set]) <| ImpX.here <| rN <| tSR <| rM rfl rfl <| rM rfl rfl <| ARun.qv (q_addw rfl rfl) rfl <| bndE h fun l22 e9 h => ARun.qv (t_slice_sl rfl rfl .none (.some _ _ _ rfl) rfl rfl e9) rfl <| rA rfl rfl <| ARun.ghost <| ImpX.takeT e9 .p0 <| ImpX.here <| rN <| ATodo.ret <| ?_
          obtain rfl := Option.some.inj h
          exact ImpX.here ⟨_, .cons (.tmp _ _ rfl) .nil, _, .cons .p0 .nil, ⟨b7, rfl, rfl⟩⟩

set_option maxHeartbeats 4000000 in
theorem strings_SplitN_c [GI : GTab] {p0x0 : Str} {p1x0 : Str} {p2x0 : Int} {r : (List Str)} (h : strings_SplitN p0x0 p1x0 p2x0 = some r) : ACall Tryz.prog 92 [.str p0x0, .str p1x0, I p2x0] [] (T1 (fun d_0 => [(d_0, .arr 1 (r.map AV.str))]) (fun d_0 => .sl 1 d_0 0 r.length)) := by
  unfold strings_SplitN at h
  refine ACall.lessH ?_
  refine ACall.bodyN Tryz.func92 rfl Tryz.ntmps92 Tryz.results92 rfl rfl ?_
  refine tSR <| rA rfl rfl <| rN <| tSR <| rM rfl rfl <| rM rfl rfl <| rM rfl rfl <| bndE h fun v1 e1 h => t_call1 rfl (strings_genSplit_c e1) (CoL.refl _) .nil (fun _ => rfl) rfl fun b2 => rA rfl rfl <| rN <| ATodo.ret <| ?_
  obtain rfl := Option.some.inj h
  exact ImpX.here ⟨_, .cons (.tmp _ _ rfl) .nil, _, .cons .p0 .nil, ⟨b2, rfl, rfl⟩⟩

set_option maxHeartbeats 4000000 in
theorem base_Number_c {p0x0 : Str} {p1x0 : Int} {r : Int × Bool} (h : base_Number p0x0 p1x0 = some r) : Pu Tryz.prog 129 [.str p0x0, I p1x0] (.tup [I r.1, .bool r.2]) := by
  unfold base_Number at h
  refine ACall.bodyN Tryz.func129 rfl Tryz.ntmps129 Tryz.results129 rfl rfl ?_
  refine tSR <| rA rfl rfl <| rA rfl rfl <| rN <| tSR <| rM rfl rfl <| r_callp rfl (strings_TrimPrefix_c rfl) (CoL.refl _) rfl <| rA rfl rfl <| rN <| tS <| tS <| ATodo.cut (fun σ' => ∃ (c1 : Bool), base_Number_j1 p0x0 c1 = some r ∧ σ' = ⟨61, [(0, .str p0x0), (6, .str (Lib.trimPrefix p0x0 ([45] : Str))), (36, .bool c1)], []⟩) ?_ ?_
  · refine tR <| rM rfl rfl <| ARun.qv (q_seq rfl rfl) rfl <| rM rfl rfl <| ARun.guard_df rfl rfl rfl (fun hc => ?_) (fun hc => ?_)
    · refine have h := iteF hc h; rM rfl rfl <| rY rfl rfl rfl <| ARun.qv (q_len_str rfl) rfl <| rY rfl rfl rfl <| rM rfl rfl <| rY rfl rfl rfl <| ARun.qv (q_gtr rfl rfl) rfl <| rE rfl rfl rfl <| rM rfl rfl <| ARun.guard_df rfl rfl rfl (fun hc => ?_) (fun hc => ?_)
      · refine have h := iteF hc h; rM rfl rfl <| rY rfl rfl rfl <| bndE h fun c2 e1 h => ARun.qv (t_index_str rfl rfl e1) rfl <| rY rfl rfl rfl <| ARun.qv (q_eql rfl rfl) rfl <| rY rfl rfl rfl <| rM rfl rfl <| ARun.guard_dt rfl rfl rfl (fun hc => ?_) (fun hc => ?_)
        · rw [andTd hc] at h
          refine rM rfl rfl <| rY rfl rfl rfl <| ARun.qv (q_len_str rfl) rfl <| rY rfl rfl rfl <| ARun.qv (q_gtr rfl rfl) rfl <| rY rfl rfl rfl <| rM rfl rfl <| ARun.guard_df rfl rfl rfl (fun hc => ?_) (fun hc => ?_)
          · rw [orFd hc] at h
            exact rM rfl rfl <| rY rfl rfl rfl <| ARun.qv (q_len_str rfl) rfl <| rY rfl rfl rfl <| rM rfl rfl <| rY rfl rfl rfl <| ARun.qv (q_len_str rfl) rfl <| rY rfl rfl rfl <| ARun.qv (q_gtr rfl rfl) rfl <| rY rfl rfl rfl <| rE rfl rfl rfl <| rY rfl rfl rfl <| rT rfl rfl rfl <| rE rfl rfl rfl <| rN <| ATodo.stop <| ImpX.lq [] ⟨decide (((Lib.trimPrefix p0x0 ([45] : Str)).length : Int) < (p0x0.length : Int)), h, rfl⟩ rfl rfl
          · rw [orTd hc] at h
            exact rG rfl rfl rfl rfl <| rG rfl rfl rfl rfl <| rG rfl rfl rfl rfl <| rG rfl rfl rfl rfl <| rY rfl rfl rfl <| rT rfl rfl rfl <| rY rfl rfl rfl <| rT rfl rfl rfl <| rE rfl rfl rfl <| rN <| ATodo.stop <| ImpX.lq [] ⟨true, h, rfl⟩ rfl rfl
        · rw [andFd hc] at h
          exact rG rfl rfl rfl rfl <| rG rfl rfl rfl rfl <| rG rfl rfl rfl rfl <| ARun.guard_und rfl rfl rfl <| ARun.guard_und rfl rfl rfl <| ARun.guard_und rfl rfl rfl <| ARun.guard_und rfl rfl rfl <| ARun.guard_und rfl rfl rfl <| rG rfl rfl rfl rfl <| rY rfl rfl rfl <| rE rfl rfl rfl <| rE rfl rfl rfl <| rN <| ATodo.stop <| ImpX.lq [] ⟨false, h, rfl⟩ rfl rfl
      · exact have h := iteT hc h; rG rfl rfl rfl rfl <| rG rfl rfl rfl rfl <| rG rfl rfl rfl rfl <| ARun.guard_und rfl rfl rfl <| ARun.guard_und rfl rfl rfl <| ARun.guard_und rfl rfl rfl <| ARun.guard_und rfl rfl rfl <| ARun.guard_und rfl rfl rfl <| ARun.guard_und rfl rfl rfl <| ARun.guard_und rfl rfl rfl <| ARun.guard_und rfl rfl rfl <| ARun.guard_und rfl rfl rfl <| ARun.guard_und rfl rfl rfl <| rG rfl rfl rfl rfl <| rT rfl rfl rfl <| rN <| ATodo.stop <| ImpX.lq [] ⟨true, h, rfl⟩ rfl rfl
    · exact have h := iteT hc h; rG rfl rfl rfl rfl <| rG rfl rfl rfl rfl <| rG rfl rfl rfl rfl <| rT rfl rfl rfl <| rM rfl rfl <| rG rfl rfl rfl rfl <| rG rfl rfl rfl rfl <| rG rfl rfl rfl rfl <| rG rfl rfl rfl rfl <| ARun.guard_und rfl rfl rfl <| ARun.guard_und rfl rfl rfl <| ARun.guard_und rfl rfl rfl <| ARun.guard_und rfl rfl rfl <| ARun.guard_und rfl rfl rfl <| ARun.guard_und rfl rfl rfl <| ARun.guard_und rfl rfl rfl <| ARun.guard_und rfl rfl rfl <| ARun.guard_und rfl rfl rfl <| ARun.guard_und rfl rfl rfl <| rG rfl rfl rfl rfl <| rT rfl rfl rfl <| rN <| ATodo.stop <| ImpX.lq [] ⟨true, h, rfl⟩ rfl rfl
  · rintro σ' ⟨c1, h, rfl⟩
    unfold base_Number_j1 at h
    refine ATodo.cond rfl (fun hc => ?_) (fun hc => ?_)
    · refine have h := iteT hc h; tSR <| rA rfl rfl <| rA rfl rfl <| rN <| ATodo.ret <| ?_
      obtain rfl := Option.some.inj h
      exact ImpX.here ⟨_, .cons (.tmp _ _ rfl) (.cons (.tmp _ _ rfl) .nil), rfl⟩
    · refine have h := iteFb hc h; tK <| tS <| tSR <| rM rfl rfl <| ARun.qv (q_len_str rfl) rfl <| rM rfl rfl <| rN <| ATodo.block <| ATodo.loopI (fun x : Int => base_Number_b1 p0x0 x) (fun x σ' => σ' = ⟨61, [(0, .str p0x0), (6, .str (Lib.trimPrefix p0x0 ([45] : Str))), (38, I ((Lib.trimPrefix p0x0 ([45] : Str)).length : Int)), (39, I x)], []⟩) h ?_ ?_
      · exact ImpX.lq [] rfl rfl rfl
      · intro n4 z1 σ' J1 hmk h hJ1 hA1
        obtain rfl := hmk
        replace h : base_Number_b1 p0x0 n4 = some z1 := h
        unfold base_Number_b1 at h
        refine tSR <| ARun.qv (q_lss rfl rfl) rfl <| rN <| tS <| ATodo.cond_d rfl (fun hc => ?_) (fun hc => ?_)
        · refine have h := iteT hc h; tK <| tS <| ATodo.block <| tSR <| rM rfl rfl <| rA rfl rfl <| rN <| tS <| ATodo.cut (fun σ' => ∃ (c5 : Bool), base_Number_j2 n4 c5 = some z1 ∧ σ' = ⟨61, [(0, .str p0x0), (6, .str (Lib.trimPrefix p0x0 ([45] : Str))), (38, I ((Lib.trimPrefix p0x0 ([45] : Str)).length : Int)), (39, I n4), (51, .bool c5)], []⟩) ?_ ?_
          · refine tR <| rM rfl rfl <| rM rfl rfl <| bndE h fun c6 e2 h => ARun.qv (t_index_str rfl rfl e2) rfl <| ARun.qv (q_lss rfl rfl) rfl <| rM rfl rfl <| ARun.guard_df rfl rfl rfl (fun hc => ?_) (fun hc => ?_)
            · exact have h := iteF hc h; rM rfl rfl <| rY rfl rfl rfl <| rM rfl rfl <| rY rfl rfl rfl <| bndE h fun c7 e3 h => ARun.qv (t_index_str rfl rfl e3) rfl <| rY rfl rfl rfl <| ARun.qv (q_gtr rfl rfl) rfl <| rE rfl rfl rfl <| rN <| ATodo.stop <| ImpX.lq [] ⟨decide ((57 : Int) < (c7.toNat : Int)), h, rfl⟩ rfl rfl
            · exact have h := iteT hc h; rG rfl rfl rfl rfl <| rG rfl rfl rfl rfl <| rG rfl rfl rfl rfl <| rT rfl rfl rfl <| rN <| ATodo.stop <| ImpX.lq [] ⟨true, h, rfl⟩ rfl rfl
          · rintro σ' ⟨c5, h, rfl⟩
            unfold base_Number_j2 at h
            refine ATodo.cond rfl (fun hc => ?_) (fun hc => ?_)
            · refine have h := iteT hc h; tSR <| rA rfl rfl <| rA rfl rfl <| rN <| ATodo.ret <| have h := outL h hA1; ?_
              obtain rfl := Option.some.inj h
              exact ImpX.here ⟨_, .cons (.tmp _ _ rfl) (.cons (.tmp _ _ rfl) .nil), rfl⟩
            · refine have h := iteFb hc h; tK <| ATodo.blk <| tR <| ARun.qv (q_addw rfl rfl) rfl <| rM rfl rfl <| rN <| ATodo.stop <| ?_
              obtain rfl := Option.some.inj h
              exact hJ1 _ _ rfl <| ImpX.lq [] rfl rfl rfl
        · refine have h := iteF hc h; ATodo.exit rfl <| have h := outL h hA1; ?_
          unfold base_Number_k3 at h
          refine tSR <| rM rfl rfl <| bndE h fun v8 e4 h => t_callE rfl (strconv_Atoi_c e4) (CoL.refl _) rfl fun e9 e5 => rM rfl rfl <| rX rfl rfl rfl <| rX rfl rfl rfl <| rA rfl rfl <| rA rfl rfl <| rN <| tS <| ATodo.regionM (id := 11) (A := [0, 0, 2, 1, 15]) 5 mixed rfl (by kernel_rfl) (by kernel_rfl) <| AM.qv (q_move rfl) rfl <| AM.qv (q_move rfl) rfl <| AM.qv (q_eqE e5 rfl) rfl <| AM.qv (q_assign rfl) rfl <| AM.qv (q_assign rfl) rfl <| AM.nil <| rN <| ATodo.ret <| ?_
          obtain rfl := Option.some.inj h
          exact ImpX.here ⟨_, .cons (.tmp _ _ rfl) (.cons (.tmp _ _ rfl) .nil), rfl⟩

set_option maxHeartbeats 4000000 in
theorem base_Unquote_c [GI : GTab] {p0x0 : Str} {r : Str × Bool} (h : base_Unquote p0x0 = some r) : Pu Tryz.prog 143 [.str p0x0] (.tup [.str r.1, .bool r.2]) := by
  unfold base_Unquote at h
  refine ACall.bodyN Tryz.func143 rfl Tryz.ntmps143 Tryz.results143 rfl rfl ?_
  refine tSR <| rA rfl rfl <| rA rfl rfl <| rN <| tS <| tS <| ATodo.cut (fun σ' => ∃ (c1 : Bool), base_Unquote_j1 p0x0 c1 = some r ∧ σ' = ⟨69, [(0, .str p0x0), (22, .bool c1)], []⟩) ?_ ?_
  · refine tR <| rM rfl rfl <| ARun.qv (q_len_str rfl) rfl <| ARun.qv (q_lss rfl rfl) rfl <| rM rfl rfl <| ARun.guard_df rfl rfl rfl (fun hc => ?_) (fun hc => ?_)
    · refine have h := iteF hc h; rM rfl rfl <| rY rfl rfl rfl <| bndE h fun c2 e1 h => ARun.qv (t_index_str rfl rfl e1) rfl <| rY rfl rfl rfl <| ARun.qv (q_neq rfl rfl) rfl <| rE rfl rfl rfl <| rM rfl rfl <| ARun.guard_df rfl rfl rfl (fun hc => ?_) (fun hc => ?_)
      · exact have h := iteF hc h; rM rfl rfl <| rY rfl rfl rfl <| rM rfl rfl <| rY rfl rfl rfl <| ARun.qv (q_len_str rfl) rfl <| rY rfl rfl rfl <| ARun.qv (q_subw rfl rfl) rfl <| rY rfl rfl rfl <| bndE h fun c3 e2 h => ARun.qv (t_index_str rfl rfl e2) rfl <| rY rfl rfl rfl <| ARun.qv (q_neq rfl rfl) rfl <| rE rfl rfl rfl <| rN <| ATodo.stop <| ImpX.lq [] ⟨decide ((c3.toNat : Int) ≠ (34 : Int)), h, rfl⟩ rfl rfl
      · exact have h := iteT hc h; rG rfl rfl rfl rfl <| rG rfl rfl rfl rfl <| rG rfl rfl rfl rfl <| rG rfl rfl rfl rfl <| rG rfl rfl rfl rfl <| rT rfl rfl rfl <| rN <| ATodo.stop <| ImpX.lq [] ⟨true, h, rfl⟩ rfl rfl
    · exact have h := iteT hc h; rG rfl rfl rfl rfl <| rG rfl rfl rfl rfl <| rT rfl rfl rfl <| rM rfl rfl <| rG rfl rfl rfl rfl <| rG rfl rfl rfl rfl <| rG rfl rfl rfl rfl <| rG rfl rfl rfl rfl <| rG rfl rfl rfl rfl <| rG rfl rfl rfl rfl <| rT rfl rfl rfl <| rN <| ATodo.stop <| ImpX.lq [] ⟨true, h, rfl⟩ rfl rfl
  · rintro σ' ⟨c1, h, rfl⟩
    unfold base_Unquote_j1 at h
    refine ATodo.cond rfl (fun hc => ?_) (fun hc => ?_)
    · refine have h := iteT hc h; tSR <| rA rfl rfl <| rA rfl rfl <| rN <| ATodo.ret <| ?_
      obtain rfl := Option.some.inj h
      exact ImpX.here ⟨_, .cons (.tmp _ _ rfl) (.cons (.tmp _ _ rfl) .nil), rfl⟩
    · refine have h := iteFb hc h; tK <| tSR <| rM rfl rfl <| rM rfl rfl <| ARun.qv (q_len_str rfl) rfl <| ARun.qv (q_subw rfl rfl) rfl <| bndE h fun l4 e3 h => ARun.qv (t_slice_str rfl (.some _ _ _ rfl) (.some _ _ _ rfl) rfl rfl e3) rfl <| rA rfl rfl <| rN <| tSR <| rA rfl rfl <| rN <| tS <| tSR <| rA rfl rfl <| rN <| ATodo.block <| ATodo.loopI (fun x : (List Int) × Int => base_Unquote_b1 l4 x.1 x.2) (fun x σ' => ∃ (b8 : Bk), σ' = ⟨69, [(0, .str l4), (4, .sl 1 b8 0 x.1.length), (5, I x.2)], [(b8, .arr 1 (x.1.map (AV.int .u8)))]⟩) h ?_ ?_
      · exact ImpX.arr (s := 4) 1 rfl fun b11 => ImpX.lq [0] ⟨b11, rfl⟩ rfl rfl
      · intro x z1 σ' J1 hmk h hJ1 hA1
        obtain ⟨l9, n10⟩ := x
        obtain ⟨b8, rfl⟩ := hmk
        replace h : base_Unquote_b1 l4 l9 n10 = some z1 := h
        unfold base_Unquote_b1 at h
        refine tS <| tSR <| rM rfl rfl <| rM rfl rfl <| ARun.qv (q_len_str rfl) rfl <| ARun.qv (q_lss rfl rfl) rfl <| rN <| ATodo.cond_d rfl (fun hc => ?_) (fun hc => ?_)
        · refine have h := iteT hc h; tK <| tS <| ATodo.block <| tS <| tSR <| rM rfl rfl <| rM rfl rfl <| bndE h fun c12 e4 h => ARun.qv (t_index_str rfl rfl e4) rfl <| rA rfl rfl <| rN <| ATodo.block <| tSR <| rM rfl rfl <| ARun.qv (q_eql rfl rfl) rfl <| rA rfl rfl <| rN <| ATodo.cond_d rfl (fun hc => ?_) (fun hc => ?_)
          · refine have h := iteT hc h; tSR <| rA rfl rfl <| rA rfl rfl <| rN <| ATodo.ret <| have h := outL h hA1; ?_
            obtain rfl := Option.some.inj h
            exact ImpX.here ⟨_, .cons (.tmp _ _ rfl) (.cons (.tmp _ _ rfl) .nil), rfl⟩
          · refine have h := iteF hc h; tSR <| rM rfl rfl <| ARun.qv (q_eql rfl rfl) rfl <| rA rfl rfl <| rN <| ATodo.cut (fun σ' => ∃ (n13 : Int), base_Unquote_j2 l4 l9 n13 = some z1 ∧ σ' = ⟨69, [(0, .str l4), (4, .sl 1 b8 0 l9.length), (5, I n13)], [(b8, .arr 1 (l9.map (AV.int .u8)))]⟩) ?_ ?_
            · refine ATodo.cond_d rfl (fun hc => ?_) (fun hc => ?_)
              · refine have h := iteT hc h; tSR <| rM rfl rfl <| ARun.qv (q_addw rfl rfl) rfl <| rA rfl rfl <| rN <| tS <| ATodo.cut (fun σ' => ∃ (c14 : Bool), base_Unquote_j3 l4 l9 n10 c14 = some z1 ∧ σ' = ⟨69, [(0, .str l4), (4, .sl 1 b8 0 l9.length), (5, I (w64 (n10 + (1 : Int)))), (60, .bool c14)], [(b8, .arr 1 (l9.map (AV.int .u8)))]⟩) ?_ ?_
                · refine tR <| rM rfl rfl <| rM rfl rfl <| ARun.qv (q_len_str rfl) rfl <| ARun.qv (q_eql rfl rfl) rfl <| rM rfl rfl <| ARun.guard_df rfl rfl rfl (fun hc => ?_) (fun hc => ?_)
                  · refine have h := iteF hc h; rM rfl rfl <| rY rfl rfl rfl <| rM rfl rfl <| rY rfl rfl rfl <| bndE h fun c15 e5 h => ARun.qv (t_index_str rfl rfl e5) rfl <| rY rfl rfl rfl <| ARun.qv (q_neq rfl rfl) rfl <| rY rfl rfl rfl <| rM rfl rfl <| ARun.guard_dt rfl rfl rfl (fun hc => ?_) (fun hc => ?_)
                    · exact have h := iteT hc h; rM rfl rfl <| rY rfl rfl rfl <| rM rfl rfl <| rY rfl rfl rfl <| bndE h fun c16 e6 h => ARun.qv (t_index_str rfl rfl e6) rfl <| rY rfl rfl rfl <| ARun.qv (q_neq rfl rfl) rfl <| rY rfl rfl rfl <| rT rfl rfl rfl <| rE rfl rfl rfl <| rN <| ATodo.stop <| ImpX.lq [0] ⟨decide ((c16.toNat : Int) ≠ (92 : Int)), h, rfl⟩ rfl rfl
                    · exact have h := iteF hc h; rG rfl rfl rfl rfl <| rG rfl rfl rfl rfl <| rG rfl rfl rfl rfl <| rY rfl rfl rfl <| rE rfl rfl rfl <| rE rfl rfl rfl <| rN <| ATodo.stop <| ImpX.lq [0] ⟨false, h, rfl⟩ rfl rfl
                  · exact have h := iteT hc h; rG rfl rfl rfl rfl <| rG rfl rfl rfl rfl <| rG rfl rfl rfl rfl <| rG rfl rfl rfl rfl <| ARun.guard_und rfl rfl rfl <| ARun.guard_und rfl rfl rfl <| ARun.guard_und rfl rfl rfl <| ARun.guard_und rfl rfl rfl <| rG rfl rfl rfl rfl <| rT rfl rfl rfl <| rN <| ATodo.stop <| ImpX.lq [0] ⟨true, h, rfl⟩ rfl rfl
                · rintro σ' ⟨c14, h, rfl⟩
                  unfold base_Unquote_j3 at h
                  refine ATodo.cond rfl (fun hc => ?_) (fun hc => ?_)
                  · refine have h := iteT hc h; tSR <| rA rfl rfl <| rA rfl rfl <| rN <| ATodo.ret <| have h := outL h hA1; ?_
                    obtain rfl := Option.some.inj h
                    exact ImpX.here ⟨_, .cons (.tmp _ _ rfl) (.cons (.tmp _ _ rfl) .nil), rfl⟩
                  · exact have h := iteFb hc h; tK <| ATodo.stop <| ImpX.lq [0] ⟨w64 (n10 + (1 : Int)), h, rfl⟩ rfl rfl
              · exact have h := iteF hc h; tK <| ATodo.stop <| ImpX.lq [0] ⟨n10, h, rfl⟩ rfl rfl
            · rintro σ' ⟨n13, h, rfl⟩
              unfold base_Unquote_j2 at h
              refine ATodo.blk <| tR <| rM rfl rfl <| rM rfl rfl <| rM rfl rfl <| bndE h fun c17 e7 h => ARun.qv (t_index_str rfl rfl e7) rfl <| n_buildSliceL (xs := ([(c17.toNat : Int)]).map (AV.int .u8)) rfl rfl rfl rfl rfl rfl <| bndE h fun l18 e8 h => t_append (g := (AV.int .u8)) rfl rfl rfl rfl rfl rfl rfl rfl (.list _) e8 (fun _ => .p0) rfl fun b19 => rA rfl rfl <| rN <| ATodo.blk <| tR <| rM rfl rfl <| ARun.qv (q_addw rfl rfl) rfl <| rA rfl rfl <| rN <| ATodo.stop <| ?_
              obtain rfl := Option.some.inj h
              exact hJ1 _ _ rfl <| ImpX.lq [0] ⟨b19, rfl⟩ rfl rfl
        · refine have h := iteF hc h; ATodo.exit rfl <| have h := outL h hA1; tSR <| rM rfl rfl <| ARun.qv (q_conv_bs rfl (CoB.arrT .p0)) rfl <| rA rfl rfl <| rA rfl rfl <| rN <| ATodo.ret <| ?_
          obtain rfl := Option.some.inj h
          exact ImpX.here ⟨_, .cons (.tmp _ _ rfl) (.cons (.tmp _ _ rfl) .nil), rfl⟩

set_option maxHeartbeats 4000000 in
theorem twin_readValue_c {p0x0 : Str} {r : ValueS × Bool} (h : twin_readValue p0x0 = some r) : Pu Tryz.prog 161 [.str p0x0] (.tup [.agg [I r.1.Kind, .bool r.1.Flag, I r.1.Number, .str r.1.Words], .bool r.2]) := by
  unfold twin_readValue at h
  refine ACall.bodyN Tryz.func161 rfl Tryz.ntmps161 Tryz.results161 rfl rfl ?_
  refine tSR <| n_alloc rfl rfl rfl rfl fun b1 => rA rfl rfl <| rN <| tS <| tSR <| rM rfl rfl <| rN <| ATodo.block <| tSR <| ARun.qv (q_seq rfl rfl) rfl <| rA rfl rfl <| rN <| ATodo.cond_d rfl (fun hc => ?_) (fun hc => ?_)
  · refine have h := iteT hc h; tSR <| ARun.qv (n_build rfl rfl rfl rfl rfl) rfl <| n_store_ptr rfl rfl rfl rfl .p0 rfl rfl <| rA rfl rfl <| rN <| ATodo.ret <| ?_
    obtain rfl := Option.some.inj h
    exact ImpX.here ⟨_, .cons (.all _ _ _ _ _ _ rfl .p0 TUnder.h TInfo.h rfl rfl) (.cons (.tmp _ _ rfl) .nil), rfl⟩
  · refine have h := iteF hc h; tS <| tSR <| ARun.qv (q_seq rfl rfl) rfl <| rA rfl rfl <| rN <| ATodo.cut (fun σ' => ∃ (c2 : Bool), twin_readValue_j1 p0x0 c2 = some r ∧ σ' = ⟨34, [(0, .str p0x0), (2, .ptr b1 0), (12, .bool c2)], [(b1, .cells [I (0 : Int), .bool false, I (0 : Int), .str []])]⟩) ?_ ?_
    · refine ATodo.cond_d rfl (fun hc => ?_) (fun hc => ?_)
      · exact have h := iteT hc h; tK <| ATodo.stop <| ImpX.lq [0] ⟨decide (p0x0 = ([121, 101, 115] : Str)), h, rfl⟩ rfl rfl
      · exact have h := iteF hc h; tR <| ARun.qv (q_seq rfl rfl) rfl <| rA rfl rfl <| rN <| ATodo.stop <| ImpX.lq [0] ⟨decide (p0x0 = ([110, 111] : Str)), h, rfl⟩ rfl rfl
    · rintro σ' ⟨c2, h, rfl⟩
      unfold twin_readValue_j1 at h
      refine ATodo.cond rfl (fun hc => ?_) (fun hc => ?_)
      · refine have h := iteT hc h; tSR <| rM rfl rfl <| ARun.qv (q_seq rfl rfl) rfl <| ARun.qv (n_build rfl rfl rfl rfl rfl) rfl <| n_store_ptr rfl rfl rfl rfl .p0 rfl rfl <| rA rfl rfl <| rN <| ATodo.ret <| ?_
        obtain rfl := Option.some.inj h
        exact ImpX.here ⟨_, .cons (.all _ _ _ _ _ _ rfl .p0 TUnder.h TInfo.h rfl rfl) (.cons (.tmp _ _ rfl) .nil), rfl⟩
      · refine have h := iteFb hc h; tK <| ATodo.blk <| tS <| tSR <| rM rfl rfl <| bndE h fun v3 e1 h => r_callp rfl (base_Number_c e1) (CoL.refl _) rfl <| rM rfl rfl <| rX rfl rfl rfl <| rX rfl rfl rfl <| rA rfl rfl <| rA rfl rfl <| rN <| tSR <| rM rfl rfl <| rN <| ATodo.cond rfl (fun hc => ?_) (fun hc => ?_)
        · refine have h := iteT hc h; tSR <| rM rfl rfl <| ARun.qv (n_build rfl rfl rfl rfl rfl) rfl <| n_store_ptr rfl rfl rfl rfl .p0 rfl rfl <| rA rfl rfl <| rN <| ATodo.ret <| ?_
          obtain rfl := Option.some.inj h
          exact ImpX.here ⟨_, .cons (.all _ _ _ _ _ _ rfl .p0 TUnder.h TInfo.h rfl rfl) (.cons (.tmp _ _ rfl) .nil), rfl⟩
        · refine have h := iteFb hc h; tK <| tSR <| rM rfl rfl <| bndE h fun v4 e2 h => r_callp rfl (base_Unquote_c e2) (CoL.refl _) rfl <| rM rfl rfl <| rX rfl rfl rfl <| rX rfl rfl rfl <| rA rfl rfl <| rA rfl rfl <| rN <| tSR <| rM rfl rfl <| ARun.qv (n_build rfl rfl rfl rfl rfl) rfl <| rM rfl rfl <| n_store_ptr rfl rfl rfl rfl .p0 rfl rfl <| rA rfl rfl <| rN <| ATodo.ret <| ?_
          obtain rfl := Option.some.inj h
          exact ImpX.here ⟨_, .cons (.all _ _ _ _ _ _ rfl .p0 TUnder.h TInfo.h rfl rfl) (.cons (.tmp _ _ rfl) .nil), rfl⟩

set_option maxHeartbeats 4000000 in
theorem twin_readCell_c {p0x0 : Str} {r : Cell × Bool} (h : twin_readCell p0x0 = some r) : Pu Tryz.prog 110 [.str p0x0] (.tup [.agg [.str r.1.Prop_.Name, I r.1.Prop_.Value.Kind, .bool r.1.Prop_.Value.Flag, I r.1.Prop_.Value.Number, .str r.1.Prop_.Value.Words, I r.1.Stamp.At, .str r.1.Stamp.By, I r.1.Stamp.No], .bool r.2]) := by
  unfold twin_readCell at h
  refine ACall.bodyN Tryz.func110 rfl Tryz.ntmps110 Tryz.results110 rfl rfl ?_
  refine tSR <| n_alloc rfl rfl rfl rfl fun b1 => rA rfl rfl <| rN <| tSR <| rM rfl rfl <| bndE h fun v2 e1 h => t_call1 rfl (strings_SplitN_c e1) (CoL.refl _) .nil (fun _ => rfl) rfl fun b3 => rA rfl rfl <| rN <| tS <| tS <| ATodo.cut (fun σ' => ∃ (c4 : Bool), twin_readCell_j1 v2 c4 = some r ∧ σ' = ⟨69, [(2, .ptr b1 0), (4, .sl 1 b3 0 v2.length), (27, .bool c4)], [(b1, .cells [.str [], I (0 : Int), .bool false, I (0 : Int), .str [], I (0 : Int), .str [], I (0 : Int)]), (b3, .arr 1 (v2.map AV.str))]⟩) ?_ ?_
  · refine tR <| rM rfl rfl <| ARun.qv (t_len_sl rfl) rfl <| ARun.qv (q_neq rfl rfl) rfl <| rM rfl rfl <| ARun.guard_df rfl rfl rfl (fun hc => ?_) (fun hc => ?_)
    · refine have h := iteF hc h; rM rfl rfl <| rY rfl rfl rfl <| bndE h fun v5 e2 h => ARun.qv (t_index_sl rfl rfl rfl e2) rfl <| rY rfl rfl rfl <| ARun.qv (t_load_aptr (g := AV.str) rfl rfl (.inl .p0) e2 rfl) rfl <| rY rfl rfl rfl <| ARun.qv (q_seq rfl rfl) rfl <| rE rfl rfl rfl <| rM rfl rfl <| ARun.guard_df rfl rfl rfl (fun hc => ?_) (fun hc => ?_)
      · exact have h := iteF hc h; rM rfl rfl <| rY rfl rfl rfl <| bndE h fun v6 e3 h => ARun.qv (t_index_sl rfl rfl rfl e3) rfl <| rY rfl rfl rfl <| ARun.qv (t_load_aptr (g := AV.str) rfl rfl (.inl .p0) e3 rfl) rfl <| rY rfl rfl rfl <| ARun.qv (q_seq rfl rfl) rfl <| rE rfl rfl rfl <| rN <| ATodo.stop <| ImpX.lq [1, 0] ⟨decide (v6 = ([] : Str)), h, rfl⟩ rfl rfl
      · exact have h := iteT hc h; rG rfl rfl rfl rfl <| rG rfl rfl rfl rfl <| rG rfl rfl rfl rfl <| rT rfl rfl rfl <| rN <| ATodo.stop <| ImpX.lq [1, 0] ⟨true, h, rfl⟩ rfl rfl
    · exact have h := iteT hc h; rG rfl rfl rfl rfl <| rG rfl rfl rfl rfl <| rG rfl rfl rfl rfl <| rT rfl rfl rfl <| rM rfl rfl <| rG rfl rfl rfl rfl <| rG rfl rfl rfl rfl <| rG rfl rfl rfl rfl <| rG rfl rfl rfl rfl <| rT rfl rfl rfl <| rN <| ATodo.stop <| ImpX.lq [1, 0] ⟨true, h, rfl⟩ rfl rfl
  · rintro σ' ⟨c4, h, rfl⟩
    unfold twin_readCell_j1 at h
    refine ATodo.cond rfl (fun hc => ?_) (fun hc => ?_)
    · refine have h := iteT hc h; tSR <| ARun.qv (n_build rfl rfl rfl rfl rfl) rfl <| n_store_ptr rfl rfl rfl rfl .p0 rfl rfl <| rA rfl rfl <| rN <| ATodo.ret <| ?_
      obtain rfl := Option.some.inj h
      exact ImpX.here ⟨_, .cons (.all _ _ _ _ _ _ rfl .p0 TUnder.h TInfo.h rfl rfl) (.cons (.tmp _ _ rfl) .nil), rfl⟩
    · refine have h := iteFb hc h; tK <| tSR <| rM rfl rfl <| bndE h fun v7 e4 h => ARun.qv (t_index_sl rfl rfl rfl e4) rfl <| ARun.qv (t_load_aptr (g := AV.str) rfl rfl (.inl .p1) e4 rfl) rfl <| bndE h fun v8 e5 h => r_callp rfl (base_Number_c e5) (CoL.refl _) rfl <| rM rfl rfl <| rX rfl rfl rfl <| rX rfl rfl rfl <| rA rfl rfl <| rA rfl rfl <| rN <| tSR <| rM rfl rfl <| bndE h fun v9 e6 h => ARun.qv (t_index_sl rfl rfl rfl e6) rfl <| ARun.qv (t_load_aptr (g := AV.str) rfl rfl (.inl .p1) e6 rfl) rfl <| bndE h fun v10 e7 h => r_callp rfl (base_Number_c e7) (CoL.refl _) rfl <| rM rfl rfl <| rX rfl rfl rfl <| rX rfl rfl rfl <| rA rfl rfl <| rA rfl rfl <| rN <| tSR <| rM rfl rfl <| bndE h fun v11 e8 h => ARun.qv (t_index_sl rfl rfl rfl e8) rfl <| ARun.qv (t_load_aptr (g := AV.str) rfl rfl (.inl .p1) e8 rfl) rfl <| bndE h fun v12 e9 h => r_callp rfl (twin_readValue_c e9) (CoL.refl _) rfl <| rM rfl rfl <| rX rfl rfl rfl <| rX rfl rfl rfl <| n_alloc rfl rfl rfl rfl fun b13 => n_store_ptr rfl rfl rfl rfl .p0 rfl rfl <| rA rfl rfl <| rN <| tS <| bndE h fun v14 e10 h => bndE h fun v15 e11 h => ATodo.regionT (id := 7) (A := [0, 1, 3, 0, 15, 0, 0, 64, 192, 0, 992, 2047, 0, 4096, 12288, 28672, 61440, 126976, 258048, 131071, 1048575]) (H0 := [(b1, .cells [.str [], I (0 : Int), .bool false, I (0 : Int), .str [], I (0 : Int), .str [], I (0 : Int)])]) (HH := fun β => [(b1, .cells [.str v14, I v12.1.Kind, .bool v12.1.Flag, I v12.1.Number, .str v12.1.Words, I v8.1, .str v15, I v10.1]), (b13, .cells [I v12.1.Kind, .bool v12.1.Flag, I v12.1.Number, .str v12.1.Words]), (b3, .arr 1 (v2.map AV.str))]) 20 mixed rfl (by kernel_rfl) (by kernel_rfl) [⟨none, some 19, [], fun _ => (b1, .cells [.str [], I (0 : Int), .bool false, I (0 : Int), .str [], I (0 : Int), .str [], I (0 : Int)]), none⟩, ⟨some 19, none, [], fun _ => (b1, .cells [.str v14, I v12.1.Kind, .bool v12.1.Flag, I v12.1.Number, .str v12.1.Words, I v8.1, .str v15, I v10.1]), none⟩] [] rfl (by kernel_rfl) rfl (.cons .p1 .nil) (fun _ => rfl) <| AT.am 19 rfl rfl <| AM.qv (q_move rfl) rfl <| AM.qv (t_index_sl rfl rfl rfl e10) rfl <| AM.qv (t_load_aptr (g := AV.str) rfl rfl (.inl .p1) e10 rfl) rfl <| AM.qv (q_load_ptr_all rfl rfl .p0 rfl) rfl <| AM.qv (n_build rfl rfl rfl rfl rfl) rfl <| AM.qv (q_move rfl) rfl <| AM.qv (q_move rfl) rfl <| AM.qv (t_index_sl rfl rfl rfl e11) rfl <| AM.qv (t_load_aptr (g := AV.str) rfl rfl (.inl .p1) e11 rfl) rfl <| AM.qv (q_move rfl) rfl <| AM.qv (n_build rfl rfl rfl rfl rfl) rfl <| AM.qv (n_build rfl rfl rfl rfl rfl) rfl <| AM.qv (q_move rfl) rfl <| AM.qv (q_move rfl) rfl <| AM.andG rfl rfl rfl rfl rfl rfl <| AM.qv (q_move rfl) rfl <| AM.andG rfl rfl rfl rfl rfl rfl <| AM.nil <| AT.run0 (Ti := [(b1, .cells [.str [], I (0 : Int), .bool false, I (0 : Int), .str [], I (0 : Int), .str [], I (0 : Int)])]) (Pi := [(b1, .cells [.str v14, I v12.1.Kind, .bool v12.1.Flag, I v12.1.Number, .str v12.1.Words, I v8.1, .str v15, I v10.1])]) (fun _ => rfl) (fun _ => rfl) (fun _ => rfl) rfl rfl ?_ ?_
      · exact n_store_ptr rfl rfl rfl rfl .p0 rfl rfl <| ARun.nil ⟨_, rfl⟩
      refine AT.nilN (fun _ => rfl) fun β => rA rfl rfl <| rN <| ATodo.ret <| ?_
      obtain rfl := Option.some.inj h
      exact ImpX.here ⟨_, .cons (.all _ _ _ _ _ _ rfl .p0 TUnder.h TInfo.h rfl rfl) (.cons (.tmp _ _ rfl) .nil), rfl⟩

set_option maxHeartbeats 4000000 in
theorem twin_Read_1x_c {b_1 : Bk} {b_1x0 : Bk} {p0x0 : Str} {p1x0 : List Cell} {r : Bool × (List Cell)} (h : twin_Read_1x p0x0 p1x0 = some r) : ACall Tryz.prog 109 [.str p0x0, .ptr b_1 0] [(b_1, .cells [.sl 8 b_1x0 0 p1x0.length]), (b_1x0, .arr 8 (p1x0.map Cell.av))] (T1 (fun c_1x0 => [(b_1, .cells [.sl 8 c_1x0 0 r.2.length]), (c_1x0, .arr 8 (r.2.map Cell.av))]) (fun c_1x0 => .bool r.1)) := by
  unfold twin_Read_1x at h
  refine ACall.lessH ?_
  refine ACall.bodyN Tryz.func109 rfl Tryz.ntmps109 Tryz.results109 rfl rfl ?_
  refine tSR <| rA rfl rfl <| rN <| tSR <| rM rfl rfl <| bndE h fun v1 e1 h => r_callp rfl (twin_readCell_c e1) (CoL.refl _) rfl <| rM rfl rfl <| rX rfl rfl rfl <| rX rfl rfl rfl <| n_alloc rfl rfl rfl rfl fun b2 => n_store_ptr rfl rfl rfl rfl .p0 rfl rfl <| rA rfl rfl <| rN <| tSR <| rL rfl rfl .p1 rfl rfl <| ARun.qv (q_load_ptr_all rfl rfl .p0 rfl) rfl <| n_buildSliceL (xs := ([v1.1] : List Cell).map Cell.av) rfl rfl rfl rfl rfl rfl <| bndE h fun l3 e2 h => t_append (g := Cell.av) rfl rfl rfl rfl rfl rfl rfl rfl (.list _) e2 (fun _ => .p2) rfl fun b4 => n_store_ptr rfl rfl rfl rfl .p1 rfl rfl <| rN <| tSR <| rM rfl rfl <| rA rfl rfl <| rN <| ATodo.ret <| ?_
  obtain rfl := Option.some.inj h
  exact ImpX.here ⟨_, .cons (.tmp _ _ rfl) .nil, _, .cons .p1 (.cons .p1 .nil), ⟨b4, rfl, rfl⟩⟩

set_option maxHeartbeats 4000000 in
theorem internal_stringslite_HasSuffix_c [GI : GTab] {p0x0 : Str} {p1x0 : Str} {r : Bool} (h : internal_stringslite_HasSuffix p0x0 p1x0 = some r) : Pu Tryz.prog 250 [.str p0x0, .str p1x0] (.bool r) := by
  unfold internal_stringslite_HasSuffix at h
  refine ACall.bodyN Tryz.func250 rfl Tryz.ntmps250 Tryz.results250 rfl rfl ?_
  refine tSR <| rA rfl rfl <| rN <| tS <| ATodo.cut (fun σ' => ∃ (c1 : Bool), internal_stringslite_HasSuffix_j1 c1 = some r ∧ σ' = ⟨21, [(4, .bool c1)], []⟩) ?_ ?_
  · refine tR <| rM rfl rfl <| ARun.qv (q_len_str rfl) rfl <| rM rfl rfl <| ARun.qv (q_len_str rfl) rfl <| ARun.qv (q_geq rfl rfl) rfl <| rM rfl rfl <| ARun.guard_dt rfl rfl rfl (fun hc => ?_) (fun hc => ?_)
    · exact have h := iteT hc h; rM rfl rfl <| rY rfl rfl rfl <| rM rfl rfl <| rY rfl rfl rfl <| ARun.qv (q_len_str rfl) rfl <| rY rfl rfl rfl <| rM rfl rfl <| rY rfl rfl rfl <| ARun.qv (q_len_str rfl) rfl <| rY rfl rfl rfl <| ARun.qv (q_subw rfl rfl) rfl <| rY rfl rfl rfl <| bndE h fun l2 e1 h => ARun.qv (t_slice_str rfl (.some _ _ _ rfl) .none rfl rfl e1) rfl <| rY rfl rfl rfl <| rM rfl rfl <| rY rfl rfl rfl <| ARun.qv (q_seq rfl rfl) rfl <| rT rfl rfl rfl <| rA rfl rfl <| rN <| ATodo.stop <| ImpX.lq [] ⟨decide (l2 = p1x0), h, rfl⟩ rfl rfl
    · exact have h := iteF hc h; rG rfl rfl rfl rfl <| rG rfl rfl rfl rfl <| rG rfl rfl rfl rfl <| rG rfl rfl rfl rfl <| rG rfl rfl rfl rfl <| rG rfl rfl rfl rfl <| rG rfl rfl rfl rfl <| rG rfl rfl rfl rfl <| rE rfl rfl rfl <| rA rfl rfl <| rN <| ATodo.stop <| ImpX.lq [] ⟨false, h, rfl⟩ rfl rfl
  · rintro σ' ⟨c1, h, rfl⟩
    unfold internal_stringslite_HasSuffix_j1 at h
    refine ATodo.ret <| ?_
    obtain rfl := Option.some.inj h
    exact ImpX.here ⟨_, .cons (.tmp _ _ rfl) .nil, rfl⟩

set_option maxHeartbeats 4000000 in
theorem internal_stringslite_CutSuffix_c [GI : GTab] {p0x0 : Str} {p1x0 : Str} {r : Str × Bool} (h : internal_stringslite_CutSuffix p0x0 p1x0 = some r) : Pu Tryz.prog 218 [.str p0x0, .str p1x0] (.tup [.str r.1, .bool r.2]) := by
  unfold internal_stringslite_CutSuffix at h
  refine ACall.bodyN Tryz.func218 rfl Tryz.ntmps218 Tryz.results218 rfl rfl ?_
  refine tSR <| rA rfl rfl <| rA rfl rfl <| rN <| tS <| tSR <| rM rfl rfl <| rM rfl rfl <| bndE h fun v1 e1 h => r_callp rfl (internal_stringslite_HasSuffix_c e1) (CoL.refl _) rfl <| ARun.qv (q_not rfl) rfl <| rN <| ATodo.cond rfl (fun hc => ?_) (fun hc => ?_)
  · refine have h := iteT hc h; tSR <| rM rfl rfl <| rA rfl rfl <| rA rfl rfl <| rN <| ATodo.ret <| ?_
    obtain rfl := Option.some.inj h
    exact ImpX.here ⟨_, .cons (.tmp _ _ rfl) (.cons (.tmp _ _ rfl) .nil), rfl⟩
  · refine have h := iteFb hc h; tK <| tSR <| rM rfl rfl <| rM rfl rfl <| ARun.qv (q_len_str rfl) rfl <| rM rfl rfl <| ARun.qv (q_len_str rfl) rfl <| ARun.qv (q_subw rfl rfl) rfl <| bndE h fun l2 e2 h => ARun.qv (t_slice_str rfl .none (.some _ _ _ rfl) rfl rfl e2) rfl <| rA rfl rfl <| rA rfl rfl <| rN <| ATodo.ret <| ?_
    obtain rfl := Option.some.inj h
    exact ImpX.here ⟨_, .cons (.tmp _ _ rfl) (.cons (.tmp _ _ rfl) .nil), rfl⟩

set_option maxHeartbeats 4000000 in
theorem strings_CutSuffix_c [GI : GTab] {p0x0 : Str} {p1x0 : Str} {r : Str × Bool} (h : strings_CutSuffix p0x0 p1x0 = some r) : Pu Tryz.prog 174 [.str p0x0, .str p1x0] (.tup [.str r.1, .bool r.2]) := by
  unfold strings_CutSuffix at h
  refine ACall.bodyN Tryz.func174 rfl Tryz.ntmps174 Tryz.results174 rfl rfl ?_
  refine tSR <| rA rfl rfl <| rA rfl rfl <| rN <| tSR <| rM rfl rfl <| rM rfl rfl <| bndE h fun v1 e1 h => r_callp rfl (internal_stringslite_CutSuffix_c e1) (CoL.refl _) rfl <| rX rfl rfl rfl <| rX rfl rfl rfl <| rA rfl rfl <| rA rfl rfl <| rN <| ATodo.ret <| ?_
  obtain rfl := Option.some.inj h
  exact ImpX.here ⟨_, .cons (.tmp _ _ rfl) (.cons (.tmp _ _ rfl) .nil), rfl⟩

set_option maxHeartbeats 4000000 in
theorem base_Lines_c {p0x0 : Str} {r : (List Str) × Bool} (h : base_Lines p0x0 = some r) : ACall Tryz.prog 128 [.str p0x0] [] (T1 (fun d_0 => [(d_0, .arr 1 (r.1.map AV.str))]) (fun d_0 => .tup [.sl 1 d_0 0 r.1.length, .bool r.2])) := by
  unfold base_Lines at h
  refine ACall.lessH ?_
  refine ACall.bodyN Tryz.func128 rfl Tryz.ntmps128 Tryz.results128 rfl rfl ?_
  refine tSR <| rA rfl rfl <| rA rfl rfl <| rN <| tS <| tSR <| rM rfl rfl <| ARun.qv (q_seq rfl rfl) rfl <| rN <| ATodo.cond_d rfl (fun hc => ?_) (fun hc => ?_)
  · refine have h := iteT hc h; tSR <| rA rfl rfl <| rA rfl rfl <| rN <| ATodo.ret <| ?_
    obtain rfl := Option.some.inj h
    exact ImpX.arr (s := 2) 1 rfl fun b1 => ImpX.here ⟨_, .cons (.tmp _ _ rfl) (.cons (.tmp _ _ rfl) .nil), _, .cons .p0 .nil, ⟨b1, rfl, rfl⟩⟩
  · refine have h := iteF hc h; tK <| tSR <| rM rfl rfl <| bndE h fun v2 e1 h => r_callp rfl (strings_CutSuffix_c e1) (CoL.refl _) rfl <| rM rfl rfl <| rX rfl rfl rfl <| rX rfl rfl rfl <| rA rfl rfl <| rA rfl rfl <| rN <| tSR <| rM rfl rfl <| bndE h fun v3 e2 h => t_call1 rfl (strings_Split_c e2) (CoL.refl _) .nil (fun _ => rfl) rfl fun b4 => rM rfl rfl <| rA rfl rfl <| rA rfl rfl <| rN <| ATodo.ret <| ?_
    obtain rfl := Option.some.inj h
    exact ImpX.here ⟨_, .cons (.tmp _ _ rfl) (.cons (.tmp _ _ rfl) .nil), _, .cons .p0 .nil, ⟨b4, rfl, rfl⟩⟩

set_option maxHeartbeats 4000000 in
theorem base_Each_f1x_twin_Read_1x_c {b_2 : Bk} {b_2x0 : Bk} {p0x0 : Str} {p2x0 : List Cell} {r : Int × Bool × (List Cell)} (h : base_Each_f1x_twin_Read_1x p0x0 p2x0 = some r) : ACall Tryz.prog 65 [.str p0x0, .func (.func 109) [.ptr b_2 0]] [(b_2, .cells [.sl 8 b_2x0 0 p2x0.length]), (b_2x0, .arr 8 (p2x0.map Cell.av))] (T1 (fun c_2x0 => [(b_2, .cells [.sl 8 c_2x0 0 r.2.2.length]), (c_2x0, .arr 8 (r.2.2.map Cell.av))]) (fun c_2x0 => .tup [I r.1, .bool r.2.1])) := by
  unfold base_Each_f1x_twin_Read_1x at h
  refine ACall.lessH ?_
  refine ACall.bodyN Tryz.func65 rfl Tryz.ntmps65 Tryz.results65 rfl rfl ?_
  refine tSR <| rA rfl rfl <| rA rfl rfl <| rN <| tSR <| rM rfl rfl <| bndE h fun v1 e1 h => t_call1 rfl (base_Lines_c e1) (CoL.refl _) .nil (fun _ => rfl) rfl fun b2 => rM rfl rfl <| rX rfl rfl rfl <| rX rfl rfl rfl <| rA rfl rfl <| rA rfl rfl <| rN <| tS <| tSR <| rM rfl rfl <| ARun.qv (t_len_sl rfl) rfl <| rM rfl rfl <| rN <| ATodo.block <| ATodo.loopI (fun x : (List Cell) × Int => base_Each_f1x_twin_Read_1x_b1 v1 x.1 x.2) (fun x σ' => ∃ (b6 : Bk), σ' = ⟨39, [(1, .func (.func 109) [.ptr b_2 0]), (6, .sl 1 b2 0 v1.1.length), (7, .bool v1.2), (15, .sl 1 b2 0 v1.1.length), (16, I (v1.1.length : Int)), (17, I x.2)], [(b_2, .cells [.sl 8 b6 0 x.1.length]), (b6, .arr 8 (x.1.map Cell.av)), (b2, .arr 1 (v1.1.map AV.str))]⟩) h ?_ ?_
  · exact ImpX.lq [1, 1, 0] ⟨b_2x0, rfl⟩ rfl rfl
  · intro x z1 σ' J1 hmk h hJ1 hA1
    obtain ⟨l7, n8⟩ := x
    obtain ⟨b6, rfl⟩ := hmk
    replace h : base_Each_f1x_twin_Read_1x_b1 v1 l7 n8 = some z1 := h
    unfold base_Each_f1x_twin_Read_1x_b1 at h
    refine tSR <| ARun.qv (q_lss rfl rfl) rfl <| rN <| tS <| ATodo.cond_d rfl (fun hc => ?_) (fun hc => ?_)
    · refine have h := iteT hc h; tK <| tS <| ATodo.block <| tSR <| rM rfl rfl <| bndE h fun v9 e2 h => ARun.qv (t_index_sl rfl rfl rfl e2) rfl <| ARun.qv (t_load_aptr (g := AV.str) rfl rfl (.inl .p2) e2 rfl) rfl <| rA rfl rfl <| rA rfl rfl <| rN <| tS <| ATodo.cut (fun σ' => ∃ (b10 : Bk) (l11 : List Cell) (c12 : Bool), base_Each_f1x_twin_Read_1x_j1 n8 l11 c12 = some z1 ∧ σ' = ⟨39, [(1, .func (.func 109) [.ptr b_2 0]), (6, .sl 1 b2 0 v1.1.length), (7, .bool v1.2), (8, I n8), (15, .sl 1 b2 0 v1.1.length), (16, I (v1.1.length : Int)), (17, I n8), (36, .bool c12)], [(b_2, .cells [.sl 8 b10 0 l11.length]), (b10, .arr 8 (l11.map Cell.av)), (b2, .arr 1 (v1.1.map AV.str))]⟩) ?_ ?_
      · refine tR <| rM rfl rfl <| ARun.qv (q_not rfl) rfl <| rM rfl rfl <| ARun.guard rfl rfl rfl (fun hc => ?_) (fun hc => ?_)
        · refine have h := iteT hc h; rM rfl rfl <| rY rfl rfl rfl <| rM rfl rfl <| rY rfl rfl rfl <| ARun.qv (t_len_sl rfl) rfl <| rY rfl rfl rfl <| ARun.qv (q_subw rfl rfl) rfl <| rY rfl rfl rfl <| ARun.qv (q_eql rfl rfl) rfl <| rT rfl rfl rfl <| rM rfl rfl <| ARun.guard_df rfl rfl rfl (fun hc => ?_) (fun hc => ?_)
          · exact have h := iteF hc h; rM rfl rfl <| rY rfl rfl rfl <| rM rfl rfl <| rY rfl rfl rfl <| bndE h fun v13 e3 h => t_callv1 rfl rfl rfl (twin_Read_1x_c e3) (CoL.refl _) (.cons .p0 (.cons .p0 .nil)) (fun _ => rfl) rfl fun b14 => rY rfl rfl rfl <| ARun.qv (q_not rfl) rfl <| rE rfl rfl rfl <| rN <| ATodo.stop <| ImpX.lq [0, 0, 0] ⟨b14, v13.2, !v13.1, h, rfl⟩ rfl rfl
          · exact have h := iteT hc h; rG rfl rfl rfl rfl <| rG rfl rfl rfl rfl <| rG rfl rfl rfl rfl <| rT rfl rfl rfl <| rN <| ATodo.stop <| ImpX.lq [0, 0, 0] ⟨b6, l7, true, h, rfl⟩ rfl rfl
        · exact have h := iteFb hc h; rG rfl rfl rfl rfl <| rG rfl rfl rfl rfl <| rG rfl rfl rfl rfl <| rG rfl rfl rfl rfl <| rE rfl rfl rfl <| rM rfl rfl <| rY rfl rfl rfl <| rM rfl rfl <| rY rfl rfl rfl <| rM rfl rfl <| rY rfl rfl rfl <| bndE h fun v15 e4 h => t_callv1 rfl rfl rfl (twin_Read_1x_c e4) (CoL.refl _) (.cons .p0 (.cons .p0 .nil)) (fun _ => rfl) rfl fun b16 => rY rfl rfl rfl <| ARun.qv (q_not rfl) rfl <| rE rfl rfl rfl <| rN <| ATodo.stop <| ImpX.lq [0, 0, 0] ⟨b16, v15.2, !v15.1, h, rfl⟩ rfl rfl
      · rintro σ' ⟨b10, l11, c12, h, rfl⟩
        unfold base_Each_f1x_twin_Read_1x_j1 at h
        refine ATodo.cond rfl (fun hc => ?_) (fun hc => ?_)
        · refine have h := iteT hc h; tSR <| rM rfl rfl <| rA rfl rfl <| rA rfl rfl <| rN <| ATodo.ret <| have h := outL h hA1; ?_
          obtain rfl := Option.some.inj h
          exact ImpX.here ⟨_, .cons (.tmp _ _ rfl) (.cons (.tmp _ _ rfl) .nil), _, .cons .p0 (.cons .p0 .nil), ⟨b10, rfl, rfl⟩⟩
        · refine have h := iteFb hc h; tK <| ATodo.blk <| tR <| ARun.qv (q_addw rfl rfl) rfl <| rM rfl rfl <| rN <| ATodo.stop <| ?_
          obtain rfl := Option.some.inj h
          exact hJ1 _ _ rfl <| ImpX.lq [0, 0, 0] ⟨b10, rfl⟩ rfl rfl
    · refine have h := iteF hc h; ATodo.exit rfl <| have h := outL h hA1; tSR <| rA rfl rfl <| rA rfl rfl <| rN <| ATodo.ret <| ?_
      obtain rfl := Option.some.inj h
      exact ImpX.here ⟨_, .cons (.tmp _ _ rfl) (.cons (.tmp _ _ rfl) .nil), _, .cons .p0 (.cons .p0 .nil), ⟨b6, rfl, rfl⟩⟩

set_option maxHeartbeats 4000000 in
theorem twin_Read_c {p0x0 : Str} {r : (List Cell) × Int × Int} (h : twin_Read p0x0 = some r) : ACall Tryz.prog 40 [.str p0x0] [] (T1 (fun d_0 => [(d_0, .arr 8 (r.1.map Cell.av))]) (fun d_0 => .tup [.sl 8 d_0 0 r.1.length, I r.2.1, I r.2.2])) := by
  unfold twin_Read at h
  refine ACall.lessH ?_
  refine ACall.bodyN Tryz.func40 rfl Tryz.ntmps40 Tryz.results40 rfl rfl ?_
  refine tSR <| rA rfl rfl <| rA rfl rfl <| rA rfl rfl <| rN <| tS <| tSR <| rM rfl rfl <| ARun.qv (q_len_str rfl) rfl <| ARun.qv (q_gtr rfl rfl) rfl <| rN <| ATodo.cond_d rfl (fun hc => ?_) (fun hc => ?_)
  · refine have h := iteT hc h; tSR <| rA rfl rfl <| rA rfl rfl <| rA rfl rfl <| rN <| ATodo.ret <| ?_
    obtain rfl := Option.some.inj h
    exact ImpX.arr (s := 2) 8 rfl fun b1 => ImpX.here ⟨_, .cons (.tmp _ _ rfl) (.cons (.tmp _ _ rfl) (.cons (.tmp _ _ rfl) .nil)), _, .cons .p0 .nil, ⟨b1, rfl, rfl⟩⟩
  · refine have h := iteF hc h; tK <| tSR <| n_alloc rfl rfl rfl rfl fun b2 => rN <| tSR <| rM rfl rfl <| ARun.qv (q_makeFunc rfl) rfl <| bndE h fun v3 e1 h => ARun.ghost <| ImpX.arrBox (j := 0) 8 (fun _ => .p0) rfl (fun _ => rfl) (fun _ => rfl) fun b4 => ImpX.here <| t_call1 rfl (base_Each_f1x_twin_Read_1x_c e1) (CoL.refl _) (.cons .p1 (.cons .p0 .nil)) (fun _ => rfl) rfl fun b5 => rM rfl rfl <| rX rfl rfl rfl <| rX rfl rfl rfl <| rA rfl rfl <| rA rfl rfl <| rN <| tS <| tSR <| rM rfl rfl <| ARun.qv (q_not rfl) rfl <| rN <| ATodo.cond rfl (fun hc => ?_) (fun hc => ?_)
    · refine have h := iteT hc h; tSR <| rM rfl rfl <| rA rfl rfl <| rA rfl rfl <| rA rfl rfl <| rN <| ATodo.ret <| ?_
      obtain rfl := Option.some.inj h
      exact ImpX.arr (s := 2) 8 rfl fun b6 => ImpX.here ⟨_, .cons (.tmp _ _ rfl) (.cons (.tmp _ _ rfl) (.cons (.tmp _ _ rfl) .nil)), _, .cons .p0 .nil, ⟨b6, rfl, rfl⟩⟩
    · refine have h := iteFb hc h; tK <| tS <| tSR <| rL rfl rfl .p0 rfl rfl <| bndE h fun v7 e2 h => r_callpB rfl (twin_CheckCells_c e2) (.cons (CoB.arrT .p1) .nil) rfl rfl <| rA rfl rfl <| rN <| tSR <| rM rfl rfl <| ARun.qv (q_neq rfl rfl) rfl <| rN <| ATodo.cond_d rfl (fun hc => ?_) (fun hc => ?_)
      · refine have h := iteT hc h; tSR <| rM rfl rfl <| rA rfl rfl <| rA rfl rfl <| rA rfl rfl <| rN <| ATodo.ret <| ?_
        obtain rfl := Option.some.inj h
        exact ImpX.arr (s := 2) 8 rfl fun b8 => ImpX.here ⟨_, .cons (.tmp _ _ rfl) (.cons (.tmp _ _ rfl) (.cons (.tmp _ _ rfl) .nil)), _, .cons .p0 .nil, ⟨b8, rfl, rfl⟩⟩
      · refine have h := iteF hc h; tK <| tSR <| rL rfl rfl .p0 rfl rfl <| rA rfl rfl <| rA rfl rfl <| rA rfl rfl <| rN <| ATodo.ret <| ?_
        obtain rfl := Option.some.inj h
        exact ImpX.here ⟨_, .cons (.tmp _ _ rfl) (.cons (.tmp _ _ rfl) (.cons (.tmp _ _ rfl) .nil)), _, .cons .p1 .nil, ⟨b5, rfl, rfl⟩⟩

set_option maxHeartbeats 4000000 in
theorem slices_Index_string_string_c [GI : GTab] {p0x0 : List Str} {p1x0 : Str} {r : Int} (h : slices_Index_string_string p0x0 p1x0 = some r) : Pu Tryz.prog 132 [.list 1 (p0x0.map AV.str), .str p1x0] (I r) := by
  unfold slices_Index_string_string at h
  refine ACall.bodyN Tryz.func132 rfl Tryz.ntmps132 Tryz.results132 rfl rfl ?_
  refine tSR <| rA rfl rfl <| rN <| tS <| tSR <| rM rfl rfl <| ARun.qv (t_len rfl) rfl <| rM rfl rfl <| rN <| ATodo.block <| ATodo.loopI (fun x : Int => slices_Index_string_string_b1 p0x0 p1x0 x) (fun x σ' => σ' = ⟨19, [(0, .list 1 (p0x0.map AV.str)), (1, .str p1x0), (7, I (p0x0.length : Int)), (8, I x)], []⟩) h ?_ ?_
  · exact ImpX.lq [] rfl rfl rfl
  · intro n2 z1 σ' J1 hmk h hJ1 hA1
    obtain rfl := hmk
    replace h : slices_Index_string_string_b1 p0x0 p1x0 n2 = some z1 := h
    unfold slices_Index_string_string_b1 at h
    refine tSR <| ARun.qv (q_lss rfl rfl) rfl <| rN <| tS <| ATodo.cond_d rfl (fun hc => ?_) (fun hc => ?_)
    · refine have h := iteT hc h; tK <| tS <| ATodo.block <| tSR <| rM rfl rfl <| rA rfl rfl <| rN <| tSR <| rM rfl rfl <| rM rfl rfl <| rM rfl rfl <| bndE h fun v3 e1 h => ARun.qv (t_index rfl rfl rfl e1 rfl rfl) rfl <| ARun.qv (q_load_rptr rfl rfl rfl) rfl <| ARun.qv (q_seq rfl rfl) rfl <| rN <| ATodo.cond_d rfl (fun hc => ?_) (fun hc => ?_)
      · refine have h := iteT hc h; tSR <| rM rfl rfl <| rA rfl rfl <| rN <| ATodo.ret <| have h := outL h hA1; ?_
        obtain rfl := Option.some.inj h
        exact ImpX.here ⟨_, .cons (.tmp _ _ rfl) .nil, rfl⟩
      · refine have h := iteF hc h; tK <| ATodo.blk <| tR <| ARun.qv (q_addw rfl rfl) rfl <| rM rfl rfl <| rN <| ATodo.stop <| ?_
        obtain rfl := Option.some.inj h
        exact hJ1 _ _ rfl <| ImpX.lq [] rfl rfl rfl
    · refine have h := iteF hc h; ATodo.exit rfl <| have h := outL h hA1; tSR <| rA rfl rfl <| rN <| ATodo.ret <| ?_
      obtain rfl := Option.some.inj h
      exact ImpX.here ⟨_, .cons (.tmp _ _ rfl) .nil, rfl⟩

set_option maxHeartbeats 4000000 in
theorem slices_Contains_string_string_c [GI : GTab] {p0x0 : List Str} {p1x0 : Str} {r : Bool} (h : slices_Contains_string_string p0x0 p1x0 = some r) : Pu Tryz.prog 72 [.list 1 (p0x0.map AV.str), .str p1x0] (.bool r) := by
  unfold slices_Contains_string_string at h
  refine ACall.bodyN Tryz.func72 rfl Tryz.ntmps72 Tryz.results72 rfl rfl ?_
  refine tSR <| rA rfl rfl <| rN <| tSR <| rM rfl rfl <| rM rfl rfl <| bndE h fun v1 e1 h => r_callp rfl (slices_Index_string_string_c e1) (CoL.refl _) rfl <| ARun.qv (q_geq rfl rfl) rfl <| rA rfl rfl <| rN <| ATodo.ret <| ?_
  obtain rfl := Option.some.inj h
  exact ImpX.here ⟨_, .cons (.tmp _ _ rfl) .nil, rfl⟩

set_option maxHeartbeats 4000000 in
theorem Q_Number_c {p0x0 : Str} {p1x0 : Int} {r : Int × Bool} (h : Q_Number p0x0 p1x0 = some r) : Pu Tryz.prog 73 [.str p0x0, I p1x0] (.tup [I r.1, .bool r.2]) := by
  unfold Q_Number at h
  refine ACall.bodyN Tryz.func73 rfl Tryz.ntmps73 Tryz.results73 rfl rfl ?_
  refine tSR <| rA rfl rfl <| rA rfl rfl <| rN <| tSR <| rM rfl rfl <| r_callp rfl (strings_TrimPrefix_c rfl) (CoL.refl _) rfl <| rA rfl rfl <| rN <| tS <| tS <| ATodo.cut (fun σ' => ∃ (c1 : Bool), Q_Number_j1 p0x0 c1 = some r ∧ σ' = ⟨38, [(0, .str p0x0), (23, .bool c1)], []⟩) ?_ ?_
  · refine tR <| rM rfl rfl <| ARun.qv (q_seq rfl rfl) rfl <| rM rfl rfl <| ARun.guard_df rfl rfl rfl (fun hc => ?_) (fun hc => ?_)
    · refine have h := iteF hc h; rM rfl rfl <| rY rfl rfl rfl <| ARun.qv (q_len_str rfl) rfl <| rY rfl rfl rfl <| rM rfl rfl <| rY rfl rfl rfl <| ARun.qv (q_gtr rfl rfl) rfl <| rE rfl rfl rfl <| rM rfl rfl <| ARun.guard_df rfl rfl rfl (fun hc => ?_) (fun hc => ?_)
      · exact have h := iteF hc h; rM rfl rfl <| rY rfl rfl rfl <| bndE h fun v2 e1 h => r_callp rfl (Q_only_c e1) (CoL.refl _) rfl <| rY rfl rfl rfl <| ARun.qv (q_not rfl) rfl <| rE rfl rfl rfl <| rN <| ATodo.stop <| ImpX.lq [] ⟨!v2, h, rfl⟩ rfl rfl
      · exact have h := iteT hc h; rG rfl rfl rfl rfl <| rG rfl rfl rfl rfl <| rT rfl rfl rfl <| rN <| ATodo.stop <| ImpX.lq [] ⟨true, h, rfl⟩ rfl rfl
    · exact have h := iteT hc h; rG rfl rfl rfl rfl <| rG rfl rfl rfl rfl <| rG rfl rfl rfl rfl <| rT rfl rfl rfl <| rM rfl rfl <| rG rfl rfl rfl rfl <| rG rfl rfl rfl rfl <| rG rfl rfl rfl rfl <| rT rfl rfl rfl <| rN <| ATodo.stop <| ImpX.lq [] ⟨true, h, rfl⟩ rfl rfl
  · rintro σ' ⟨c1, h, rfl⟩
    unfold Q_Number_j1 at h
    refine ATodo.cond rfl (fun hc => ?_) (fun hc => ?_)
    · refine have h := iteT hc h; tSR <| rA rfl rfl <| rA rfl rfl <| rN <| ATodo.ret <| ?_
      obtain rfl := Option.some.inj h
      exact ImpX.here ⟨_, .cons (.tmp _ _ rfl) (.cons (.tmp _ _ rfl) .nil), rfl⟩
    · refine have h := iteFb hc h; tK <| tSR <| rM rfl rfl <| bndE h fun v3 e2 h => t_callE rfl (strconv_Atoi_c e2) (CoL.refl _) rfl fun e4 e3 => rM rfl rfl <| rX rfl rfl rfl <| rX rfl rfl rfl <| rA rfl rfl <| rA rfl rfl <| rN <| tS <| ATodo.cut (fun σ' => ∃ (c5 : Bool), Q_Number_j2 v3 c5 = some r ∧ σ' = ⟨38, [(4, I v3.1), (5, .bool c5)], []⟩) ?_ ?_
      · refine tR <| rM rfl rfl <| rM rfl rfl <| ARun.qv (q_eqE e3 rfl) rfl <| rM rfl rfl <| ARun.guard rfl rfl rfl (fun hc => ?_) (fun hc => ?_)
        · exact have h := iteT hc h; rM rfl rfl <| rY rfl rfl rfl <| bndE h fun v6 e4 h => r_callp rfl (strconv_Itoa_c e4) (CoL.refl _) rfl <| rY rfl rfl rfl <| rM rfl rfl <| rY rfl rfl rfl <| ARun.qv (q_seq rfl rfl) rfl <| rT rfl rfl rfl <| rA rfl rfl <| rA rfl rfl <| rN <| ATodo.stop <| ImpX.lq [] ⟨decide (v6 = p0x0), h, rfl⟩ rfl rfl
        · exact have h := iteFb hc h; rG rfl rfl rfl rfl <| rG rfl rfl rfl rfl <| rG rfl rfl rfl rfl <| rE rfl rfl rfl <| rA rfl rfl <| rA rfl rfl <| rN <| ATodo.stop <| ImpX.lq [] ⟨false, h, rfl⟩ rfl rfl
      · rintro σ' ⟨c5, h, rfl⟩
        unfold Q_Number_j2 at h
        refine ATodo.ret <| ?_
        obtain rfl := Option.some.inj h
        exact ImpX.here ⟨_, .cons (.tmp _ _ rfl) (.cons (.tmp _ _ rfl) .nil), rfl⟩

set_option maxHeartbeats 4000000 in
theorem Q_Unquoted_c {p0x0 : Str} {r : Str × Bool} (h : Q_Unquoted p0x0 = some r) : Pu Tryz.prog 93 [.str p0x0] (.tup [.str r.1, .bool r.2]) := by
  unfold Q_Unquoted at h
  refine ACall.bodyN Tryz.func93 rfl Tryz.ntmps93 Tryz.results93 rfl rfl ?_
  refine tSR <| rA rfl rfl <| rA rfl rfl <| rN <| tSR <| rA rfl rfl <| rN <| tS <| tSR <| rA rfl rfl <| rN <| ATodo.block <| ATodo.loopI (fun x : (List Int) × Int => Q_Unquoted_b1 p0x0 x.1 x.2) (fun x σ' => ∃ (b4 : Bk), σ' = ⟨37, [(0, .str p0x0), (4, .sl 1 b4 0 x.1.length), (5, I x.2)], [(b4, .arr 1 (x.1.map (AV.int .u8)))]⟩) h ?_ ?_
  · exact ImpX.arr (s := 4) 1 rfl fun b7 => ImpX.lq [0] ⟨b7, rfl⟩ rfl rfl
  · intro x z1 σ' J1 hmk h hJ1 hA1
    obtain ⟨l5, n6⟩ := x
    obtain ⟨b4, rfl⟩ := hmk
    replace h : Q_Unquoted_b1 p0x0 l5 n6 = some z1 := h
    unfold Q_Unquoted_b1 at h
    refine tS <| tSR <| rM rfl rfl <| rM rfl rfl <| ARun.qv (q_len_str rfl) rfl <| ARun.qv (q_subw rfl rfl) rfl <| ARun.qv (q_lss rfl rfl) rfl <| rN <| ATodo.cond_d rfl (fun hc => ?_) (fun hc => ?_)
    · refine have h := iteT hc h; tK <| tS <| ATodo.block <| tS <| tSR <| rM rfl rfl <| rM rfl rfl <| bndE h fun c8 e1 h => ARun.qv (t_index_str rfl rfl e1) rfl <| ARun.qv (q_eql rfl rfl) rfl <| rN <| ATodo.cut (fun σ' => ∃ (n9 : Int), Q_Unquoted_j1 p0x0 l5 n9 = some z1 ∧ σ' = ⟨37, [(0, .str p0x0), (4, .sl 1 b4 0 l5.length), (5, I n9)], [(b4, .arr 1 (l5.map (AV.int .u8)))]⟩) ?_ ?_
      · refine ATodo.cond_d rfl (fun hc => ?_) (fun hc => ?_)
        · exact have h := iteT hc h; tR <| rM rfl rfl <| ARun.qv (q_addw rfl rfl) rfl <| rA rfl rfl <| rN <| ATodo.stop <| ImpX.lq [0] ⟨w64 (n6 + (1 : Int)), h, rfl⟩ rfl rfl
        · exact have h := iteF hc h; tK <| ATodo.stop <| ImpX.lq [0] ⟨n6, h, rfl⟩ rfl rfl
      · rintro σ' ⟨n9, h, rfl⟩
        unfold Q_Unquoted_j1 at h
        refine tR <| rM rfl rfl <| rM rfl rfl <| rM rfl rfl <| bndE h fun c10 e2 h => ARun.qv (t_index_str rfl rfl e2) rfl <| n_buildSliceL (xs := ([(c10.toNat : Int)]).map (AV.int .u8)) rfl rfl rfl rfl rfl rfl <| bndE h fun l11 e3 h => t_append (g := (AV.int .u8)) rfl rfl rfl rfl rfl rfl rfl rfl (.list _) e3 (fun _ => .p0) rfl fun b12 => rA rfl rfl <| rN <| ATodo.blk <| tR <| rM rfl rfl <| ARun.qv (q_addw rfl rfl) rfl <| rA rfl rfl <| rN <| ATodo.stop <| ?_
        obtain rfl := Option.some.inj h
        exact hJ1 _ _ rfl <| ImpX.lq [0] ⟨b12, rfl⟩ rfl rfl
    · refine have h := iteF hc h; ATodo.exit rfl <| have h := outL h hA1; ?_
      unfold Q_Unquoted_k3 at h
      refine tS <| ATodo.cut (fun σ' => ∃ (c13 : Bool), Q_Unquoted_j2 l5 c13 = some r ∧ σ' = ⟨37, [(2, .str (strB l5)), (3, .bool c13)], []⟩) ?_ ?_
      · refine ATodo.regionM (id := 8) (A := [0, 1, 0, 4, 12, 28, 60, 124, 252, 60, 1020, 2044, 511, 8191]) 14 mixed rfl (by kernel_rfl) (by kernel_rfl) <| AM.qv (q_move rfl) rfl <| AM.qv (q_conv_bs rfl (CoB.arrT .p0)) rfl <| AM.qv (q_move rfl) rfl <| AM.qv (q_len_str rfl) rfl <| AM.qv (q_geq rfl rfl) rfl <| AM.qv (q_move rfl) rfl <| AM.guard_dt rfl rfl rfl (fun hc => ?_) (fun hc => ?_)
        · exact have h := iteT hc h; AM.qv (q_move rfl) rfl <| AM.guard_yes rfl rfl rfl <| AM.qv (q_conv_bs rfl (CoB.arrT .p0)) rfl <| AM.guard_yes rfl rfl rfl <| bndE h fun v14 e4 h => AM.callp rfl (Q_Quoted_c e4) (CoL.refl _) rfl <| AM.guard_yes rfl rfl rfl <| AM.qv (q_move rfl) rfl <| AM.guard_yes rfl rfl rfl <| AM.qv (q_seq rfl rfl) rfl <| AM.qv (q_pick_t rfl rfl) rfl <| AM.qv (q_assign rfl) rfl <| AM.qv (q_assign rfl) rfl <| AM.nil <| rN <| ATodo.stop <| ImpX.lq [] ⟨decide (v14 = p0x0), h, rfl⟩ rfl rfl
        · exact have h := iteF hc h; AM.guard_no rfl rfl rfl rfl <| AM.guard_no rfl rfl rfl rfl <| AM.guard_no rfl rfl rfl rfl <| AM.guard_no rfl rfl rfl rfl <| AM.qv (q_pick_f rfl rfl) rfl <| AM.qv (q_assign rfl) rfl <| AM.qv (q_assign rfl) rfl <| AM.nil <| rN <| ATodo.stop <| ImpX.lq [] ⟨false, h, rfl⟩ rfl rfl
      · rintro σ' ⟨c13, h, rfl⟩
        unfold Q_Unquoted_j2 at h
        refine ATodo.ret <| ?_
        obtain rfl := Option.some.inj h
        exact ImpX.here ⟨_, .cons (.tmp _ _ rfl) (.cons (.tmp _ _ rfl) .nil), rfl⟩

set_option maxHeartbeats 4000000 in
theorem Q_readValue_c {p0x0 : Str} {r : ValueS × Bool} (h : Q_readValue p0x0 = some r) : Pu Tryz.prog 112 [.str p0x0] (.tup [.agg [I r.1.Kind, .bool r.1.Flag, I r.1.Number, .str r.1.Words], .bool r.2]) := by
  unfold Q_readValue at h
  refine ACall.bodyN Tryz.func112 rfl Tryz.ntmps112 Tryz.results112 rfl rfl ?_
  refine tSR <| n_alloc rfl rfl rfl rfl fun b1 => rA rfl rfl <| rN <| tS <| tSR <| rM rfl rfl <| ARun.qv (q_seq rfl rfl) rfl <| rN <| ATodo.cond_d rfl (fun hc => ?_) (fun hc => ?_)
  · refine have h := iteT hc h; tSR <| ARun.qv (n_build rfl rfl rfl rfl rfl) rfl <| n_store_ptr rfl rfl rfl rfl .p0 rfl rfl <| rA rfl rfl <| rN <| ATodo.ret <| ?_
    obtain rfl := Option.some.inj h
    exact ImpX.here ⟨_, .cons (.all _ _ _ _ _ _ rfl .p0 TUnder.h TInfo.h rfl rfl) (.cons (.tmp _ _ rfl) .nil), rfl⟩
  · refine have h := iteF hc h; tK <| tS <| tS <| ATodo.cut (fun σ' => ∃ (c2 : Bool), Q_readValue_j1 p0x0 c2 = some r ∧ σ' = ⟨36, [(0, .str p0x0), (2, .ptr b1 0), (16, .bool c2)], [(b1, .cells [I (0 : Int), .bool false, I (0 : Int), .str []])]⟩) ?_ ?_
    · refine tR <| rM rfl rfl <| ARun.qv (q_seq rfl rfl) rfl <| rM rfl rfl <| ARun.guard_df rfl rfl rfl (fun hc => ?_) (fun hc => ?_)
      · rw [orFd hc] at h
        exact rM rfl rfl <| rY rfl rfl rfl <| ARun.qv (q_seq rfl rfl) rfl <| rE rfl rfl rfl <| rN <| ATodo.stop <| ImpX.lq [0] ⟨decide (p0x0 = ([110, 111] : Str)), h, rfl⟩ rfl rfl
      · rw [orTd hc] at h
        exact rG rfl rfl rfl rfl <| rT rfl rfl rfl <| rN <| ATodo.stop <| ImpX.lq [0] ⟨true, h, rfl⟩ rfl rfl
    · rintro σ' ⟨c2, h, rfl⟩
      unfold Q_readValue_j1 at h
      refine ATodo.cond rfl (fun hc => ?_) (fun hc => ?_)
      · refine have h := iteT hc h; tSR <| rM rfl rfl <| ARun.qv (q_seq rfl rfl) rfl <| ARun.qv (n_build rfl rfl rfl rfl rfl) rfl <| n_store_ptr rfl rfl rfl rfl .p0 rfl rfl <| rA rfl rfl <| rN <| ATodo.ret <| ?_
        obtain rfl := Option.some.inj h
        exact ImpX.here ⟨_, .cons (.all _ _ _ _ _ _ rfl .p0 TUnder.h TInfo.h rfl rfl) (.cons (.tmp _ _ rfl) .nil), rfl⟩
      · refine have h := iteFb hc h; tK <| tS <| tSR <| rM rfl rfl <| bndE h fun v3 e1 h => r_callp rfl (Q_Number_c e1) (CoL.refl _) rfl <| rM rfl rfl <| rX rfl rfl rfl <| rX rfl rfl rfl <| rA rfl rfl <| rA rfl rfl <| rN <| tSR <| rM rfl rfl <| rN <| ATodo.cond rfl (fun hc => ?_) (fun hc => ?_)
        · refine have h := iteT hc h; tSR <| rM rfl rfl <| ARun.qv (n_build rfl rfl rfl rfl rfl) rfl <| n_store_ptr rfl rfl rfl rfl .p0 rfl rfl <| rA rfl rfl <| rN <| ATodo.ret <| ?_
          obtain rfl := Option.some.inj h
          exact ImpX.here ⟨_, .cons (.all _ _ _ _ _ _ rfl .p0 TUnder.h TInfo.h rfl rfl) (.cons (.tmp _ _ rfl) .nil), rfl⟩
        · refine have h := iteFb hc h; tK <| tSR <| rM rfl rfl <| bndE h fun v4 e2 h => r_callp rfl (Q_Unquoted_c e2) (CoL.refl _) rfl <| rM rfl rfl <| rX rfl rfl rfl <| rX rfl rfl rfl <| rA rfl rfl <| rA rfl rfl <| rN <| tSR <| rM rfl rfl <| ARun.qv (n_build rfl rfl rfl rfl rfl) rfl <| rM rfl rfl <| n_store_ptr rfl rfl rfl rfl .p0 rfl rfl <| rA rfl rfl <| rN <| ATodo.ret <| ?_
          obtain rfl := Option.some.inj h
          exact ImpX.here ⟨_, .cons (.all _ _ _ _ _ _ rfl .p0 TUnder.h TInfo.h rfl rfl) (.cons (.tmp _ _ rfl) .nil), rfl⟩

set_option maxHeartbeats 4000000 in
theorem Q_CellsRead_1x_c {b_1 : Bk} {b_1x0 : Bk} {p0x0 : Str} {p1x0 : List Cell} {r : Bool × (List Cell)} (h : Q_CellsRead_1x p0x0 p1x0 = some r) : ACall Tryz.prog 111 [.str p0x0, .ptr b_1 0] [(b_1, .cells [.sl 8 b_1x0 0 p1x0.length]), (b_1x0, .arr 8 (p1x0.map Cell.av))] (T1 (fun c_1x0 => [(b_1, .cells [.sl 8 c_1x0 0 r.2.length]), (c_1x0, .arr 8 (r.2.map Cell.av))]) (fun c_1x0 => .bool r.1)) := by
  unfold Q_CellsRead_1x at h
  refine ACall.lessH ?_
  refine ACall.bodyN Tryz.func111 rfl Tryz.ntmps111 Tryz.results111 rfl rfl ?_
  refine tSR <| rA rfl rfl <| rN <| tSR <| rM rfl rfl <| bndE h fun v1 e1 h => t_call1 rfl (strings_SplitN_c e1) (CoL.refl _) .nil (fun _ => rfl) rfl fun b2 => rA rfl rfl <| rN <| tS <| tS <| ATodo.cut (fun σ' => ∃ (c3 : Bool), Q_CellsRead_1x_j1 p1x0 v1 c3 = some r ∧ σ' = ⟨64, [(1, .ptr b_1 0), (4, .sl 1 b2 0 v1.length), (20, .bool c3)], [(b_1, .cells [.sl 8 b_1x0 0 p1x0.length]), (b_1x0, .arr 8 (p1x0.map Cell.av)), (b2, .arr 1 (v1.map AV.str))]⟩) ?_ ?_
  · refine tR <| rM rfl rfl <| ARun.qv (t_len_sl rfl) rfl <| ARun.qv (q_neq rfl rfl) rfl <| rM rfl rfl <| ARun.guard_df rfl rfl rfl (fun hc => ?_) (fun hc => ?_)
    · exact have h := iteF hc h; rM rfl rfl <| rY rfl rfl rfl <| bndE h fun l4 e2 h => ARun.qv (t_slice_sl rfl rfl .none (.some _ _ _ rfl) rfl rfl e2) rfl <| rY rfl rfl rfl <| bndE h fun v5 e3 h => r_callpB rfl (slices_Contains_string_string_c e3) (.cons (CoB.partT e2 .p0) (.cons (.co (.refl _)) .nil)) rfl rfl <| rE rfl rfl rfl <| rN <| ATodo.stop <| ImpX.lq [1, 1, 0] ⟨v5, h, rfl⟩ rfl rfl
    · exact have h := iteT hc h; rG rfl rfl rfl rfl <| rG rfl rfl rfl rfl <| rT rfl rfl rfl <| rN <| ATodo.stop <| ImpX.lq [1, 1, 0] ⟨true, h, rfl⟩ rfl rfl
  · rintro σ' ⟨c3, h, rfl⟩
    unfold Q_CellsRead_1x_j1 at h
    refine ATodo.cond rfl (fun hc => ?_) (fun hc => ?_)
    · refine have h := iteT hc h; tSR <| rA rfl rfl <| rN <| ATodo.ret <| ?_
      obtain rfl := Option.some.inj h
      exact ImpX.here ⟨_, .cons (.tmp _ _ rfl) .nil, _, .cons .p0 (.cons .p0 .nil), ⟨b_1x0, rfl, rfl⟩⟩
    · refine have h := iteFb hc h; tK <| tSR <| rM rfl rfl <| bndE h fun v6 e4 h => ARun.qv (t_index_sl rfl rfl rfl e4) rfl <| ARun.qv (t_load_aptr (g := AV.str) rfl rfl (.inl .p2) e4 rfl) rfl <| bndE h fun v7 e5 h => r_callp rfl (Q_Number_c e5) (CoL.refl _) rfl <| rM rfl rfl <| rX rfl rfl rfl <| rX rfl rfl rfl <| rA rfl rfl <| rA rfl rfl <| rN <| tSR <| rM rfl rfl <| bndE h fun v8 e6 h => ARun.qv (t_index_sl rfl rfl rfl e6) rfl <| ARun.qv (t_load_aptr (g := AV.str) rfl rfl (.inl .p2) e6 rfl) rfl <| bndE h fun v9 e7 h => r_callp rfl (Q_Number_c e7) (CoL.refl _) rfl <| rM rfl rfl <| rX rfl rfl rfl <| rX rfl rfl rfl <| rA rfl rfl <| rA rfl rfl <| rN <| tSR <| rM rfl rfl <| bndE h fun v10 e8 h => ARun.qv (t_index_sl rfl rfl rfl e8) rfl <| ARun.qv (t_load_aptr (g := AV.str) rfl rfl (.inl .p2) e8 rfl) rfl <| bndE h fun v11 e9 h => r_callp rfl (Q_readValue_c e9) (CoL.refl _) rfl <| rM rfl rfl <| rX rfl rfl rfl <| rX rfl rfl rfl <| n_alloc rfl rfl rfl rfl fun b12 => n_store_ptr rfl rfl rfl rfl .p0 rfl rfl <| rA rfl rfl <| rN <| tS <| ATodo.regionM (id := 7) (A := [0, 0, 2, 6, 0, 30, 0, 0, 128, 384, 0, 1984, 4094, 8190, 16383, 32767]) 14 mixed rfl (by kernel_rfl) (by kernel_rfl) <| AM.qv (q_load_ptr rfl rfl .p1 rfl) rfl <| AM.qv (q_move rfl) rfl <| bndE h fun v13 e10 h => AM.qv (t_index_sl rfl rfl rfl e10) rfl <| AM.qv (t_load_aptr (g := AV.str) rfl rfl (.inl .p3) e10 rfl) rfl <| AM.qv (q_load_ptr_all rfl rfl .p0 rfl) rfl <| AM.qv (n_build rfl rfl rfl rfl rfl) rfl <| AM.qv (q_move rfl) rfl <| AM.qv (q_move rfl) rfl <| bndE h fun v14 e11 h => AM.qv (t_index_sl rfl rfl rfl e11) rfl <| AM.qv (t_load_aptr (g := AV.str) rfl rfl (.inl .p3) e11 rfl) rfl <| AM.qv (q_move rfl) rfl <| AM.qv (n_build rfl rfl rfl rfl rfl) rfl <| AM.qv (n_build rfl rfl rfl rfl rfl) rfl <| AM.buildSliceL (xs := ([(⟨(⟨v13, v11.1⟩ : PropS), (⟨v7.1, v14, v9.1⟩ : Stamp)⟩ : Cell)]).map Cell.av) rfl rfl rfl rfl rfl rfl <| AM.nil <| bndE h fun l15 e12 h => t_append (g := Cell.av) rfl rfl rfl rfl rfl rfl rfl rfl (.list _) e12 (fun _ => .p2) rfl fun b16 => n_store_ptr rfl rfl rfl rfl .p1 rfl rfl <| rN <| tS <| ATodo.cut (fun σ' => ∃ (c17 : Bool), Q_CellsRead_1x_j2 l15 c17 = some r ∧ σ' = ⟨64, [(3, .bool c17)], [(b_1, .cells [.sl 8 b16 0 l15.length]), (b16, .arr 8 (l15.map Cell.av))]⟩) ?_ ?_
      · refine tR <| rM rfl rfl <| rM rfl rfl <| ARun.guard rfl rfl rfl (fun hc => ?_) (fun hc => ?_)
        · rw [andTb hc] at h
          refine rM rfl rfl <| rT rfl rfl rfl <| rM rfl rfl <| ARun.guard rfl rfl rfl (fun hc => ?_) (fun hc => ?_)
          · rw [andTb hc] at h
            exact rM rfl rfl <| rT rfl rfl rfl <| rA rfl rfl <| rN <| ATodo.stop <| ImpX.lq [1, 1] ⟨v11.2, h, rfl⟩ rfl rfl
          · rw [andFb hc] at h
            exact rE rfl rfl rfl <| rA rfl rfl <| rN <| ATodo.stop <| ImpX.lq [1, 1] ⟨false, h, rfl⟩ rfl rfl
        · rw [andFb hc] at h
          exact rE rfl rfl rfl <| rM rfl rfl <| rG rfl rfl rfl rfl <| rE rfl rfl rfl <| rA rfl rfl <| rN <| ATodo.stop <| ImpX.lq [1, 1] ⟨false, h, rfl⟩ rfl rfl
      · rintro σ' ⟨c17, h, rfl⟩
        unfold Q_CellsRead_1x_j2 at h
        refine ATodo.ret <| ?_
        obtain rfl := Option.some.inj h
        exact ImpX.here ⟨_, .cons (.tmp _ _ rfl) .nil, _, .cons .p0 (.cons .p0 .nil), ⟨b16, rfl, rfl⟩⟩

set_option maxHeartbeats 4000000 in
theorem Q_Lines_f1x_Q_CellsRead_1x_c {b_2 : Bk} {b_2x0 : Bk} {p0x0 : Str} {p2x0 : List Cell} {r : Int × Bool × (List Cell)} (h : Q_Lines_f1x_Q_CellsRead_1x p0x0 p2x0 = some r) : ACall Tryz.prog 69 [.str p0x0, .func (.func 111) [.ptr b_2 0]] [(b_2, .cells [.sl 8 b_2x0 0 p2x0.length]), (b_2x0, .arr 8 (p2x0.map Cell.av))] (T1 (fun c_2x0 => [(b_2, .cells [.sl 8 c_2x0 0 r.2.2.length]), (c_2x0, .arr 8 (r.2.2.map Cell.av))]) (fun c_2x0 => .tup [I r.1, .bool r.2.1])) := by
  unfold Q_Lines_f1x_Q_CellsRead_1x at h
  refine ACall.lessH ?_
  refine ACall.bodyN Tryz.func69 rfl Tryz.ntmps69 Tryz.results69 rfl rfl ?_
  refine tSR <| rA rfl rfl <| rA rfl rfl <| rN <| tS <| tSR <| rA rfl rfl <| rN <| ATodo.block <| ATodo.loopI (fun x : (List Cell) × Str × Int => Q_Lines_f1x_Q_CellsRead_1x_b1 x.1 x.2.1 x.2.2) (fun x σ' => ∃ (b5 : Bk), σ' = ⟨30, [(0, .str x.2.1), (1, .func (.func 111) [.ptr b_2 0]), (6, I x.2.2)], [(b_2, .cells [.sl 8 b5 0 x.1.length]), (b5, .arr 8 (x.1.map Cell.av))]⟩) h ?_ ?_
  · exact ImpX.lq [0, 0] ⟨b_2x0, rfl⟩ rfl rfl
  · intro x z1 σ' J1 hmk h hJ1 hA1
    obtain ⟨l6, q7, n8⟩ := x
    obtain ⟨b5, rfl⟩ := hmk
    replace h : Q_Lines_f1x_Q_CellsRead_1x_b1 l6 q7 n8 = some z1 := h
    unfold Q_Lines_f1x_Q_CellsRead_1x_b1 at h
    refine tS <| tSR <| rM rfl rfl <| ARun.qv (q_sne rfl rfl) rfl <| rN <| ATodo.cond_d rfl (fun hc => ?_) (fun hc => ?_)
    · refine have h := iteT hc h; tK <| tS <| ATodo.block <| tSR <| rM rfl rfl <| bndE h fun v9 e1 h => r_callp rfl (strings_Cut_c e1) (CoL.refl _) rfl <| rM rfl rfl <| rX rfl rfl rfl <| rX rfl rfl rfl <| rX rfl rfl rfl <| rA rfl rfl <| rA rfl rfl <| rA rfl rfl <| rN <| tS <| tS <| ATodo.cut (fun σ' => ∃ (b10 : Bk) (l11 : List Cell) (c12 : Bool), Q_Lines_f1x_Q_CellsRead_1x_j1 n8 v9 l11 c12 = some z1 ∧ σ' = ⟨30, [(1, .func (.func 111) [.ptr b_2 0]), (6, I n8), (8, .str v9.2.1), (27, .bool c12)], [(b_2, .cells [.sl 8 b10 0 l11.length]), (b10, .arr 8 (l11.map Cell.av))]⟩) ?_ ?_
      · refine tR <| rM rfl rfl <| ARun.qv (q_not rfl) rfl <| rM rfl rfl <| ARun.guard rfl rfl rfl (fun hc => ?_) (fun hc => ?_)
        · exact have h := iteFb hc h; rM rfl rfl <| rY rfl rfl rfl <| rM rfl rfl <| rY rfl rfl rfl <| bndE h fun v13 e2 h => t_callv1 rfl rfl rfl (Q_CellsRead_1x_c e2) (CoL.refl _) (.cons .p0 (.cons .p0 .nil)) (fun _ => rfl) rfl fun b14 => rY rfl rfl rfl <| ARun.qv (q_not rfl) rfl <| rE rfl rfl rfl <| rN <| ATodo.stop <| ImpX.lq [0, 0] ⟨b14, v13.2, !v13.1, h, rfl⟩ rfl rfl
        · exact have h := iteT hc h; rG rfl rfl rfl rfl <| rG rfl rfl rfl rfl <| rG rfl rfl rfl rfl <| rT rfl rfl rfl <| rN <| ATodo.stop <| ImpX.lq [0, 0] ⟨b5, l6, true, h, rfl⟩ rfl rfl
      · rintro σ' ⟨b10, l11, c12, h, rfl⟩
        unfold Q_Lines_f1x_Q_CellsRead_1x_j1 at h
        refine ATodo.cond rfl (fun hc => ?_) (fun hc => ?_)
        · refine have h := iteT hc h; tSR <| rM rfl rfl <| rA rfl rfl <| rA rfl rfl <| rN <| ATodo.ret <| have h := outL h hA1; ?_
          obtain rfl := Option.some.inj h
          exact ImpX.here ⟨_, .cons (.tmp _ _ rfl) (.cons (.tmp _ _ rfl) .nil), _, .cons .p0 (.cons .p0 .nil), ⟨b10, rfl, rfl⟩⟩
        · refine have h := iteFb hc h; tK <| tR <| rM rfl rfl <| rA rfl rfl <| rN <| ATodo.blk <| tR <| rM rfl rfl <| ARun.qv (q_addw rfl rfl) rfl <| rA rfl rfl <| rN <| ATodo.stop <| ?_
          obtain rfl := Option.some.inj h
          exact hJ1 _ _ rfl <| ImpX.lq [0, 0] ⟨b10, rfl⟩ rfl rfl
    · refine have h := iteF hc h; ATodo.exit rfl <| have h := outL h hA1; tSR <| rA rfl rfl <| rA rfl rfl <| rN <| ATodo.ret <| ?_
      obtain rfl := Option.some.inj h
      exact ImpX.here ⟨_, .cons (.tmp _ _ rfl) (.cons (.tmp _ _ rfl) .nil), _, .cons .p0 (.cons .p0 .nil), ⟨b5, rfl, rfl⟩⟩

set_option maxHeartbeats 4000000 in
theorem Q_CellsRead_c {p0x0 : Str} {r : (List Cell) × Int × Int} (h : Q_CellsRead p0x0 = some r) : ACall Tryz.prog 41 [.str p0x0] [] (T1 (fun d_0 => [(d_0, .arr 8 (r.1.map Cell.av))]) (fun d_0 => .tup [.sl 8 d_0 0 r.1.length, I r.2.1, I r.2.2])) := by
  unfold Q_CellsRead at h
  refine ACall.lessH ?_
  refine ACall.bodyN Tryz.func41 rfl Tryz.ntmps41 Tryz.results41 rfl rfl ?_
  refine tSR <| rA rfl rfl <| rA rfl rfl <| rA rfl rfl <| rN <| tS <| tSR <| rM rfl rfl <| ARun.qv (q_len_str rfl) rfl <| ARun.qv (q_gtr rfl rfl) rfl <| rN <| ATodo.cond_d rfl (fun hc => ?_) (fun hc => ?_)
  · refine have h := iteT hc h; tSR <| rA rfl rfl <| rA rfl rfl <| rA rfl rfl <| rN <| ATodo.ret <| ?_
    obtain rfl := Option.some.inj h
    exact ImpX.arr (s := 2) 8 rfl fun b1 => ImpX.here ⟨_, .cons (.tmp _ _ rfl) (.cons (.tmp _ _ rfl) (.cons (.tmp _ _ rfl) .nil)), _, .cons .p0 .nil, ⟨b1, rfl, rfl⟩⟩
  · refine have h := iteF hc h; tK <| tSR <| n_alloc rfl rfl rfl rfl fun b2 => rN <| tSR <| rM rfl rfl <| ARun.qv (q_makeFunc rfl) rfl <| bndE h fun v3 e1 h => ARun.ghost <| ImpX.arrBox (j := 0) 8 (fun _ => .p0) rfl (fun _ => rfl) (fun _ => rfl) fun b4 => ImpX.here <| t_call1 rfl (Q_Lines_f1x_Q_CellsRead_1x_c e1) (CoL.refl _) (.cons .p1 (.cons .p0 .nil)) (fun _ => rfl) rfl fun b5 => rM rfl rfl <| rX rfl rfl rfl <| rX rfl rfl rfl <| rA rfl rfl <| rA rfl rfl <| rN <| tS <| tSR <| rM rfl rfl <| ARun.qv (q_not rfl) rfl <| rN <| ATodo.cond rfl (fun hc => ?_) (fun hc => ?_)
    · refine have h := iteT hc h; tSR <| rM rfl rfl <| rA rfl rfl <| rA rfl rfl <| rA rfl rfl <| rN <| ATodo.ret <| ?_
      obtain rfl := Option.some.inj h
      exact ImpX.arr (s := 2) 8 rfl fun b6 => ImpX.here ⟨_, .cons (.tmp _ _ rfl) (.cons (.tmp _ _ rfl) (.cons (.tmp _ _ rfl) .nil)), _, .cons .p0 .nil, ⟨b6, rfl, rfl⟩⟩
    · refine have h := iteFb hc h; tK <| tS <| tSR <| rL rfl rfl .p0 rfl rfl <| bndE h fun v7 e2 h => r_callpB rfl (Q_CellsFault_c e2) (.cons (CoB.arrT .p1) .nil) rfl rfl <| rA rfl rfl <| rN <| tSR <| rM rfl rfl <| ARun.qv (q_neq rfl rfl) rfl <| rN <| ATodo.cond_d rfl (fun hc => ?_) (fun hc => ?_)
      · refine have h := iteT hc h; tSR <| rM rfl rfl <| rA rfl rfl <| rA rfl rfl <| rA rfl rfl <| rN <| ATodo.ret <| ?_
        obtain rfl := Option.some.inj h
        exact ImpX.arr (s := 2) 8 rfl fun b8 => ImpX.here ⟨_, .cons (.tmp _ _ rfl) (.cons (.tmp _ _ rfl) (.cons (.tmp _ _ rfl) .nil)), _, .cons .p0 .nil, ⟨b8, rfl, rfl⟩⟩
      · refine have h := iteF hc h; tK <| tSR <| rL rfl rfl .p0 rfl rfl <| rA rfl rfl <| rA rfl rfl <| rA rfl rfl <| rN <| ATodo.ret <| ?_
        obtain rfl := Option.some.inj h
        exact ImpX.here ⟨_, .cons (.tmp _ _ rfl) (.cons (.tmp _ _ rfl) (.cons (.tmp _ _ rfl) .nil)), _, .cons .p1 .nil, ⟨b5, rfl, rfl⟩⟩

set_option maxHeartbeats 4000000 in
theorem slices_Equal_Cell_Cell_c [GI : GTab] {p0x0 : List Cell} {p1x0 : List Cell} {r : Bool} (h : slices_Equal_Cell_Cell p0x0 p1x0 = some r) : Pu Tryz.prog 42 [.list 8 (p0x0.map Cell.av), .list 8 (p1x0.map Cell.av)] (.bool r) := by
  unfold slices_Equal_Cell_Cell at h
  refine ACall.bodyN Tryz.func42 rfl Tryz.ntmps42 Tryz.results42 rfl rfl ?_
  refine tSR <| rA rfl rfl <| rN <| tS <| tSR <| rM rfl rfl <| ARun.qv (t_len rfl) rfl <| rM rfl rfl <| ARun.qv (t_len rfl) rfl <| ARun.qv (q_neq rfl rfl) rfl <| rN <| ATodo.cond_d rfl (fun hc => ?_) (fun hc => ?_)
  · refine have h := iteT hc h; tSR <| rA rfl rfl <| rN <| ATodo.ret <| ?_
    obtain rfl := Option.some.inj h
    exact ImpX.here ⟨_, .cons (.tmp _ _ rfl) .nil, rfl⟩
  · refine have h := iteF hc h; tK <| tS <| tSR <| rM rfl rfl <| ARun.qv (t_len rfl) rfl <| rM rfl rfl <| rN <| ATodo.block <| ATodo.loopI (fun x : Int => slices_Equal_Cell_Cell_b1 p0x0 p1x0 x) (fun x σ' => σ' = ⟨26, [(0, .list 8 (p0x0.map Cell.av)), (1, .list 8 (p1x0.map Cell.av)), (12, I (p0x0.length : Int)), (13, I x)], []⟩) h ?_ ?_
    · exact ImpX.lq [] rfl rfl rfl
    · intro n2 z1 σ' J1 hmk h hJ1 hA1
      obtain rfl := hmk
      replace h : slices_Equal_Cell_Cell_b1 p0x0 p1x0 n2 = some z1 := h
      unfold slices_Equal_Cell_Cell_b1 at h
      refine tSR <| ARun.qv (q_lss rfl rfl) rfl <| rN <| tS <| ATodo.cond_d rfl (fun hc => ?_) (fun hc => ?_)
      · refine have h := iteT hc h; tK <| tS <| ATodo.block <| tSR <| rM rfl rfl <| rA rfl rfl <| rN <| tS <| ATodo.regionM (id := 6) (A := [0, 0, 3, 7, 0, 0, 48, 112, 255]) 9 mixed rfl (by kernel_rfl) (by kernel_rfl) <| AM.qv (q_move rfl) rfl <| AM.qv (q_move rfl) rfl <| bndE h fun v3 e1 h => AM.qv (t_index rfl rfl rfl e1 rfl rfl) rfl <| AM.qv (q_load_rptr_agg rfl rfl rfl) rfl <| AM.qv (q_move rfl) rfl <| AM.qv (q_move rfl) rfl <| bndE h fun v4 e2 h => AM.qv (t_index rfl rfl rfl e2 rfl rfl) rfl <| AM.qv (q_load_rptr_agg rfl rfl rfl) rfl <| AM.qv (t_tne (g := Cell.av) (X := v3) (Y := v4) rfl rfl rfl rfl rfl) rfl <| AM.nil <| rN <| ATodo.cond_d rfl (fun hc => ?_) (fun hc => ?_)
        · refine have h := iteT hc h; tSR <| rA rfl rfl <| rN <| ATodo.ret <| have h := outL h hA1; ?_
          obtain rfl := Option.some.inj h
          exact ImpX.here ⟨_, .cons (.tmp _ _ rfl) .nil, rfl⟩
        · refine have h := iteF hc h; tK <| ATodo.blk <| tR <| ARun.qv (q_addw rfl rfl) rfl <| rM rfl rfl <| rN <| ATodo.stop <| ?_
          obtain rfl := Option.some.inj h
          exact hJ1 _ _ rfl <| ImpX.lq [] rfl rfl rfl
      · refine have h := iteF hc h; ATodo.exit rfl <| have h := outL h hA1; tSR <| rA rfl rfl <| rN <| ATodo.ret <| ?_
        obtain rfl := Option.some.inj h
        exact ImpX.here ⟨_, .cons (.tmp _ _ rfl) .nil, rfl⟩

set_option maxHeartbeats 4000000 in
theorem twin_find_1x_c [GI : GTab] {p0x0 : PropS} {p1x0 : Str} {r : Int} (h : twin_find_1x p0x0 p1x0 = r) : Pu Tryz.prog 241 [.agg [.str p0x0.Name, I p0x0.Value.Kind, .bool p0x0.Value.Flag, I p0x0.Value.Number, .str p0x0.Value.Words], .str p1x0] (I r) := by
  unfold twin_find_1x at h
  refine ACall.bodyN Tryz.func241 rfl Tryz.ntmps241 Tryz.results241 rfl rfl ?_
  refine tSR <| n_box rfl rfl rfl rfl fun b1 => rA rfl rfl <| rN <| tSR <| rF rfl rfl rfl <| rL rfl rfl .p0 rfl rfl <| rM rfl rfl <| r_callp rfl (strings_Compare_c rfl) (CoL.refl _) rfl <| rA rfl rfl <| rN <| ATodo.ret <| ?_
  obtain rfl := h
  exact ImpX.here ⟨_, .cons (.tmp _ _ rfl) .nil, rfl⟩

set_option maxHeartbeats 4000000 in
theorem slices_BinarySearchFunc_Prop_Prop_string_c [GI : GTab] {p0x0 : List PropS} {p1x0 : Str} {fnc : PropS → Str → Option Int} {fnc_F : FuncId} [IsFn Tryz.prog fnc_F] {fnc_C : List AV} (fnc_h : ∀ {y0 y1 : _} {u : Int}, fnc y0 y1 = some u → Pu Tryz.prog fnc_F (.agg [.str y0.Name, I y0.Value.Kind, .bool y0.Value.Flag, I y0.Value.Number, .str y0.Value.Words] :: .str y1 ::  fnc_C) (I u)) {r : Int × Bool} (h : slices_BinarySearchFunc_Prop_Prop_string p0x0 p1x0 fnc = some r) : Pu Tryz.prog 240 [.list 5 (p0x0.map PropS.av), .str p1x0, .func (.func fnc_F) fnc_C] (.tup [I r.1, .bool r.2]) := by
  unfold slices_BinarySearchFunc_Prop_Prop_string at h
  refine ACall.bodyN Tryz.func240 rfl Tryz.ntmps240 Tryz.results240 rfl rfl ?_
  refine tSR <| rA rfl rfl <| rA rfl rfl <| rN <| tSR <| rM rfl rfl <| ARun.qv (t_len rfl) rfl <| rA rfl rfl <| rN <| tSR <| rM rfl rfl <| rA rfl rfl <| rA rfl rfl <| rN <| tS <| ATodo.block <| ATodo.loopI (fun x : Int × Int => slices_BinarySearchFunc_Prop_Prop_string_b1 p0x0 p1x0 fnc x.1 x.2) (fun x σ' => σ' = ⟨49, [(0, .list 5 (p0x0.map PropS.av)), (1, .str p1x0), (2, .func (.func fnc_F) fnc_C), (8, I (p0x0.length : Int)), (9, I x.1), (10, I x.2)], []⟩) h ?_ ?_
  · exact ImpX.lq [] rfl rfl rfl
  · intro x z1 σ' J1 hmk h hJ1 hA1
    obtain ⟨n3, n4⟩ := x
    obtain rfl := hmk
    replace h : slices_BinarySearchFunc_Prop_Prop_string_b1 p0x0 p1x0 fnc n3 n4 = some z1 := h
    unfold slices_BinarySearchFunc_Prop_Prop_string_b1 at h
    refine tS <| tSR <| rM rfl rfl <| rM rfl rfl <| ARun.qv (q_lss rfl rfl) rfl <| rN <| ATodo.cond_d rfl (fun hc => ?_) (fun hc => ?_)
    · refine have h := iteT hc h; tK <| ATodo.block <| tSR <| rM rfl rfl <| rM rfl rfl <| ARun.qv (q_addw rfl rfl) rfl <| ARun.qv (q_conv_int rfl) rfl <| ARun.qv (t_shr rfl rfl (by decide)) rfl <| ARun.qv (q_conv_int rfl) rfl <| rA rfl rfl <| rN <| tSR <| rM rfl rfl <| rM rfl rfl <| rM rfl rfl <| bndE h fun v5 e1 h => ARun.qv (t_index rfl rfl rfl e1 rfl rfl) rfl <| ARun.qv (q_load_rptr_agg rfl rfl rfl) rfl <| rM rfl rfl <| bndE h fun v6 e2 h => r_callvp rfl rfl (fnc_h e2) (CoL.refl _) rfl <| ARun.qv (q_lss rfl rfl) rfl <| rN <| ATodo.cut (fun σ' => ∃ (n7 : Int) (n8 : Int), slices_BinarySearchFunc_Prop_Prop_string_j1 n7 n8 = some z1 ∧ σ' = ⟨49, [(0, .list 5 (p0x0.map PropS.av)), (1, .str p1x0), (2, .func (.func fnc_F) fnc_C), (8, I (p0x0.length : Int)), (9, I n7), (10, I n8)], []⟩) ?_ ?_
      · refine ATodo.cond_d rfl (fun hc => ?_) (fun hc => ?_)
        · exact have h := iteT hc h; tR <| rM rfl rfl <| ARun.qv (q_addw rfl rfl) rfl <| rA rfl rfl <| rN <| ATodo.stop <| ImpX.lq [] ⟨w64 ((w64 (shrI .u64 (IntKind.u64.wrap (w64 (n3 + n4))) (1 : Int))) + (1 : Int)), n4, h, rfl⟩ rfl rfl
        · exact have h := iteF hc h; tR <| rM rfl rfl <| rA rfl rfl <| rN <| ATodo.stop <| ImpX.lq [] ⟨n3, w64 (shrI .u64 (IntKind.u64.wrap (w64 (n3 + n4))) (1 : Int)), h, rfl⟩ rfl rfl
      · rintro σ' ⟨n7, n8, h, rfl⟩
        unfold slices_BinarySearchFunc_Prop_Prop_string_j1 at h
        refine ATodo.blk <| ATodo.stop <| ?_
        obtain rfl := Option.some.inj h
        exact hJ1 _ _ rfl <| ImpX.lq [] rfl rfl rfl
    · refine have h := iteF hc h; ATodo.exit rfl <| have h := outL h hA1; ?_
      unfold slices_BinarySearchFunc_Prop_Prop_string_k3 at h
      refine tS <| ATodo.cut (fun σ' => ∃ (c9 : Bool), slices_BinarySearchFunc_Prop_Prop_string_j2 n3 c9 = some r ∧ σ' = ⟨49, [(6, I n3), (7, .bool c9)], []⟩) ?_ ?_
      · refine tR <| rM rfl rfl <| rM rfl rfl <| rM rfl rfl <| ARun.qv (q_lss rfl rfl) rfl <| rM rfl rfl <| ARun.guard_dt rfl rfl rfl (fun hc => ?_) (fun hc => ?_)
        · exact have h := iteT hc h; rM rfl rfl <| rY rfl rfl rfl <| rM rfl rfl <| rY rfl rfl rfl <| rM rfl rfl <| rY rfl rfl rfl <| bndE h fun v10 e3 h => ARun.qv (t_index rfl rfl rfl e3 rfl rfl) rfl <| rY rfl rfl rfl <| ARun.qv (q_load_rptr_agg rfl rfl rfl) rfl <| rY rfl rfl rfl <| rM rfl rfl <| rY rfl rfl rfl <| bndE h fun v11 e4 h => r_callvp rfl rfl (fnc_h e4) (CoL.refl _) rfl <| rY rfl rfl rfl <| ARun.qv (q_eql rfl rfl) rfl <| rT rfl rfl rfl <| rA rfl rfl <| rA rfl rfl <| rN <| ATodo.stop <| ImpX.lq [] ⟨decide (v11 = (0 : Int)), h, rfl⟩ rfl rfl
        · exact have h := iteF hc h; rG rfl rfl rfl rfl <| rG rfl rfl rfl rfl <| rG rfl rfl rfl rfl <| rG rfl rfl rfl rfl <| rG rfl rfl rfl rfl <| rG rfl rfl rfl rfl <| rG rfl rfl rfl rfl <| rE rfl rfl rfl <| rA rfl rfl <| rA rfl rfl <| rN <| ATodo.stop <| ImpX.lq [] ⟨false, h, rfl⟩ rfl rfl
      · rintro σ' ⟨c9, h, rfl⟩
        unfold slices_BinarySearchFunc_Prop_Prop_string_j2 at h
        refine ATodo.ret <| ?_
        obtain rfl := Option.some.inj h
        exact ImpX.here ⟨_, .cons (.tmp _ _ rfl) (.cons (.tmp _ _ rfl) .nil), rfl⟩

set_option maxHeartbeats 4000000 in
theorem twin_find_c [GI : GTab] {p0x0 : List PropS} {p1x0 : Str} {r : Int} (h : twin_find p0x0 p1x0 = some r) : Pu Tryz.prog 206 [.list 5 (p0x0.map PropS.av), .str p1x0] (I r) := by
  unfold twin_find at h
  refine ACall.bodyN Tryz.func206 rfl Tryz.ntmps206 Tryz.results206 rfl rfl ?_
  refine tSR <| rA rfl rfl <| rN <| tSR <| rM rfl rfl <| rM rfl rfl <| bndE h fun v1 e1 h => r_callpB rfl (slices_BinarySearchFunc_Prop_Prop_string_c (fun e => twin_find_1x_c (Option.some.inj e)) e1) (.cons (.co (.refl _)) (.cons (.co (.refl _)) (.cons (.funcL _ _ _ .nil) .nil))) rfl rfl <| rM rfl rfl <| rX rfl rfl rfl <| rX rfl rfl rfl <| rA rfl rfl <| rA rfl rfl <| rN <| tS <| tSR <| rM rfl rfl <| ARun.qv (q_not rfl) rfl <| rN <| ATodo.cond rfl (fun hc => ?_) (fun hc => ?_)
  · refine have h := iteT hc h; tSR <| rA rfl rfl <| rN <| ATodo.ret <| ?_
    obtain rfl := Option.some.inj h
    exact ImpX.here ⟨_, .cons (.tmp _ _ rfl) .nil, rfl⟩
  · refine have h := iteFb hc h; tK <| tSR <| rM rfl rfl <| rA rfl rfl <| rN <| ATodo.ret <| ?_
    obtain rfl := Option.some.inj h
    exact ImpX.here ⟨_, .cons (.tmp _ _ rfl) .nil, rfl⟩

set_option maxHeartbeats 4000000 in
theorem twin_CheckProps_1x_c [GI : GTab] {p0x0 : Str} {p1x0 : List PropS} {r : Bool} (h : twin_CheckProps_1x p0x0 p1x0 = some r) : Pu Tryz.prog 205 [.str p0x0, .rptr [.list 5 (p1x0.map PropS.av)]] (.bool r) := by
  unfold twin_CheckProps_1x at h
  refine ACall.bodyN Tryz.func205 rfl Tryz.ntmps205 Tryz.results205 rfl rfl ?_
  refine tSR <| rA rfl rfl <| rN <| tSR <| ARun.qv (q_load_rptr rfl rfl rfl) rfl <| rM rfl rfl <| bndE h fun v1 e1 h => r_callp rfl (twin_find_c e1) (CoL.refl _) rfl <| ARun.qv (q_geq rfl rfl) rfl <| rA rfl rfl <| rN <| ATodo.ret <| ?_
  obtain rfl := Option.some.inj h
  exact ImpX.here ⟨_, .cons (.tmp _ _ rfl) .nil, rfl⟩

set_option maxHeartbeats 4000000 in
theorem twin_above_c [GI : GTab] {p0x0 : Str} {fnb : Str → Option Bool} {fnb_F : FuncId} [IsFn Tryz.prog fnb_F] {fnb_C : List AV} (fnb_h : ∀ {y0 : _} {u : Bool}, fnb y0 = some u → Pu Tryz.prog fnb_F (.str y0 ::  fnb_C) (.bool u)) {r : Bool} (h : twin_above p0x0 fnb = some r) : Pu Tryz.prog 204 [.str p0x0, .func (.func fnb_F) fnb_C] (.bool r) := by
  unfold twin_above at h
  refine ACall.bodyN Tryz.func204 rfl Tryz.ntmps204 Tryz.results204 rfl rfl ?_
  refine tSR <| rA rfl rfl <| rN <| tS <| tSR <| rM rfl rfl <| ARun.qv (q_len_str rfl) rfl <| rM rfl rfl <| rN <| ATodo.block <| ATodo.loopI (fun x : Int => twin_above_b1 p0x0 fnb x) (fun x σ' => σ' = ⟨23, [(0, .str p0x0), (1, .func (.func fnb_F) fnb_C), (7, I (p0x0.length : Int)), (8, I x)], []⟩) h ?_ ?_
  · exact ImpX.lq [] rfl rfl rfl
  · intro n2 z1 σ' J1 hmk h hJ1 hA1
    obtain rfl := hmk
    replace h : twin_above_b1 p0x0 fnb n2 = some z1 := h
    unfold twin_above_b1 at h
    refine tSR <| ARun.qv (q_lss rfl rfl) rfl <| rN <| tS <| ATodo.cond_d rfl (fun hc => ?_) (fun hc => ?_)
    · refine have h := iteT hc h; tK <| tS <| ATodo.block <| tSR <| rM rfl rfl <| rA rfl rfl <| rN <| tS <| ATodo.cut (fun σ' => ∃ (c3 : Bool), twin_above_j1 n2 c3 = some z1 ∧ σ' = ⟨23, [(0, .str p0x0), (1, .func (.func fnb_F) fnb_C), (7, I (p0x0.length : Int)), (8, I n2), (21, .bool c3)], []⟩) ?_ ?_
      · refine tR <| rM rfl rfl <| rM rfl rfl <| bndE h fun c4 e1 h => ARun.qv (t_index_str rfl rfl e1) rfl <| ARun.qv (q_eql rfl rfl) rfl <| rM rfl rfl <| ARun.guard_dt rfl rfl rfl (fun hc => ?_) (fun hc => ?_)
        · exact have h := iteT hc h; rM rfl rfl <| rY rfl rfl rfl <| rM rfl rfl <| rY rfl rfl rfl <| rM rfl rfl <| rY rfl rfl rfl <| bndE h fun l5 e2 h => ARun.qv (t_slice_str rfl .none (.some _ _ _ rfl) rfl rfl e2) rfl <| rY rfl rfl rfl <| bndE h fun v6 e3 h => r_callvp rfl rfl (fnb_h e3) (CoL.refl _) rfl <| rT rfl rfl rfl <| rN <| ATodo.stop <| ImpX.lq [] ⟨v6, h, rfl⟩ rfl rfl
        · exact have h := iteF hc h; rG rfl rfl rfl rfl <| rG rfl rfl rfl rfl <| rG rfl rfl rfl rfl <| rG rfl rfl rfl rfl <| rE rfl rfl rfl <| rN <| ATodo.stop <| ImpX.lq [] ⟨false, h, rfl⟩ rfl rfl
      · rintro σ' ⟨c3, h, rfl⟩
        unfold twin_above_j1 at h
        refine ATodo.cond rfl (fun hc => ?_) (fun hc => ?_)
        · refine have h := iteT hc h; tSR <| rA rfl rfl <| rN <| ATodo.ret <| have h := outL h hA1; ?_
          obtain rfl := Option.some.inj h
          exact ImpX.here ⟨_, .cons (.tmp _ _ rfl) .nil, rfl⟩
        · refine have h := iteFb hc h; tK <| ATodo.blk <| tR <| ARun.qv (q_addw rfl rfl) rfl <| rM rfl rfl <| rN <| ATodo.stop <| ?_
          obtain rfl := Option.some.inj h
          exact hJ1 _ _ rfl <| ImpX.lq [] rfl rfl rfl
    · refine have h := iteF hc h; ATodo.exit rfl <| have h := outL h hA1; tSR <| rA rfl rfl <| rN <| ATodo.ret <| ?_
      obtain rfl := Option.some.inj h
      exact ImpX.here ⟨_, .cons (.tmp _ _ rfl) .nil, rfl⟩

set_option maxHeartbeats 4000000 in
theorem twin_CheckProps_c {p0x0 : List PropS} {r : Int} (h : twin_CheckProps p0x0 = some r) : Pu Tryz.prog 162 [.list 5 (p0x0.map PropS.av)] (I r) := by
  unfold twin_CheckProps at h
  refine ACall.bodyN Tryz.func162 rfl Tryz.ntmps162 Tryz.results162 rfl rfl ?_
  refine tSR <| n_box rfl rfl rfl rfl fun b1 => rA rfl rfl <| rN <| tS <| tSR <| rL rfl rfl .p0 rfl rfl <| ARun.qv (t_len rfl) rfl <| ARun.qv (q_gtr rfl rfl) rfl <| rN <| ATodo.cond_d rfl (fun hc => ?_) (fun hc => ?_)
  · refine have h := iteT hc h; tSR <| rA rfl rfl <| rN <| ATodo.ret <| ?_
    obtain rfl := Option.some.inj h
    exact ImpX.here ⟨_, .cons (.tmp _ _ rfl) .nil, rfl⟩
  · refine have h := iteF hc h; tK <| tS <| tSR <| rL rfl rfl .p0 rfl rfl <| ARun.qv (t_len rfl) rfl <| rM rfl rfl <| rN <| ATodo.block <| ATodo.loopI (fun x : Int => twin_CheckProps_b1 p0x0 x) (fun x σ' => σ' = ⟨57, [(1, .ptr b1 0), (11, .list 5 (p0x0.map PropS.av)), (12, I (p0x0.length : Int)), (13, I x)], [(b1, .cells [.list 5 (p0x0.map PropS.av)])]⟩) h ?_ ?_
    · exact ImpX.lq [0] rfl rfl rfl
    · intro n3 z1 σ' J1 hmk h hJ1 hA1
      obtain rfl := hmk
      replace h : twin_CheckProps_b1 p0x0 n3 = some z1 := h
      unfold twin_CheckProps_b1 at h
      refine tSR <| ARun.qv (q_lss rfl rfl) rfl <| rN <| tS <| ATodo.cond_d rfl (fun hc => ?_) (fun hc => ?_)
      · refine have h := iteT hc h; tK <| tS <| ATodo.block <| tSR <| rM rfl rfl <| bndE h fun v4 e1 h => ARun.qv (t_index rfl rfl rfl e1 rfl rfl) rfl <| ARun.qv (q_load_rptr_agg rfl rfl rfl) rfl <| n_alloc rfl rfl rfl rfl fun b5 => rA rfl rfl <| n_store_ptr rfl rfl rfl rfl .p0 rfl rfl <| rN <| tS <| tSR <| rF rfl rfl rfl <| rL rfl rfl .p0 rfl rfl <| bndE h fun v6 e2 h => r_callp rfl (twin_isName_c e2) (CoL.refl _) rfl <| ARun.qv (q_not rfl) rfl <| rN <| ATodo.cond rfl (fun hc => ?_) (fun hc => ?_)
        · refine have h := iteT hc h; tSR <| rA rfl rfl <| rN <| ATodo.ret <| have h := outL h hA1; ?_
          obtain rfl := Option.some.inj h
          exact ImpX.here ⟨_, .cons (.tmp _ _ rfl) .nil, rfl⟩
        · refine have h := iteFb hc h; tK <| tS <| tSR <| rF rfl rfl rfl <| ARun.qv (n_load_ptr_part rfl rfl .p0 rfl rfl) rfl <| bndE h fun v7 e3 h => r_callp rfl (twin_valueFault_c e3) (CoL.refl _) rfl <| rA rfl rfl <| rN <| tSR <| rM rfl rfl <| ARun.qv (q_neq rfl rfl) rfl <| rN <| ATodo.cond_d rfl (fun hc => ?_) (fun hc => ?_)
          · refine have h := iteT hc h; tSR <| rM rfl rfl <| rA rfl rfl <| rN <| ATodo.ret <| have h := outL h hA1; ?_
            obtain rfl := Option.some.inj h
            exact ImpX.here ⟨_, .cons (.tmp _ _ rfl) .nil, rfl⟩
          · refine have h := iteF hc h; tK <| tS <| tSR <| rF rfl rfl rfl <| rF rfl rfl rfl <| rL rfl rfl .p0 rfl rfl <| ARun.qv (q_eql rfl rfl) rfl <| rN <| ATodo.cond_d rfl (fun hc => ?_) (fun hc => ?_)
            · refine have h := iteT hc h; tSR <| rA rfl rfl <| rN <| ATodo.ret <| have h := outL h hA1; ?_
              obtain rfl := Option.some.inj h
              exact ImpX.here ⟨_, .cons (.tmp _ _ rfl) .nil, rfl⟩
            · refine have h := iteF hc h; tK <| tS <| ATodo.cut (fun σ' => ∃ (c8 : Bool), twin_CheckProps_j1 n3 c8 = some z1 ∧ σ' = ⟨57, [(1, .ptr b1 0), (11, .list 5 (p0x0.map PropS.av)), (12, I (p0x0.length : Int)), (13, I n3), (44, .bool c8)], [(b1, .cells [.list 5 (p0x0.map PropS.av)])]⟩) ?_ ?_
              · refine ATodo.regionM (id := 13) (A := [0, 1, 3, 7, 15, 7, 7, 71, 231, 487, 999, 2047, 4095]) 13 mixed rfl (by kernel_rfl) (by kernel_rfl) <| AM.qv (q_move rfl) rfl <| AM.qv (q_gtr rfl rfl) rfl <| AM.qv (q_move rfl) rfl <| AM.guard_dt rfl rfl rfl (fun hc => ?_) (fun hc => ?_)
                · exact have h := iteT hc h; AM.qv (n_field_ptr rfl rfl) rfl <| AM.guard_yes rfl rfl rfl <| AM.qv (q_load_ptr rfl rfl .p0 rfl) rfl <| AM.guard_yes rfl rfl rfl <| AM.qv (q_load_ptr rfl rfl .p1 rfl) rfl <| AM.guard_yes rfl rfl rfl <| AM.qv (q_move rfl) rfl <| AM.guard_yes rfl rfl rfl <| AM.qv (q_subw rfl rfl) rfl <| AM.guard_yes rfl rfl rfl <| bndE h fun v9 e4 h => AM.qv (t_index rfl rfl rfl e4 rfl rfl) rfl <| AM.guard_yes rfl rfl rfl <| AM.qv (n_field_rptr rfl rfl) rfl <| AM.guard_yes rfl rfl rfl <| AM.qv (q_load_rptr rfl rfl rfl) rfl <| AM.guard_yes rfl rfl rfl <| AM.qv (t_sleq rfl rfl) rfl <| AM.qv (q_pick_t rfl rfl) rfl <| AM.nil <| rN <| ATodo.stop <| ImpX.lq [1] ⟨Op.bytesLess v4.Name v9.Name || v4.Name == v9.Name, h, rfl⟩ rfl rfl
                · exact have h := iteF hc h; AM.guard_no rfl rfl rfl rfl <| AM.guard_no rfl rfl rfl rfl <| AM.guard_no rfl rfl rfl rfl <| AM.guard_no rfl rfl rfl rfl <| AM.guard_no rfl rfl rfl rfl <| AM.guard_no rfl rfl rfl rfl <| AM.guard_no rfl rfl rfl rfl <| AM.guard_no rfl rfl rfl rfl <| AM.qv (q_pick_f rfl rfl) rfl <| AM.nil <| rN <| ATodo.stop <| ImpX.lq [1] ⟨false, h, rfl⟩ rfl rfl
              · rintro σ' ⟨c8, h, rfl⟩
                unfold twin_CheckProps_j1 at h
                refine ATodo.cond rfl (fun hc => ?_) (fun hc => ?_)
                · refine have h := iteT hc h; tSR <| rA rfl rfl <| rN <| ATodo.ret <| have h := outL h hA1; ?_
                  obtain rfl := Option.some.inj h
                  exact ImpX.here ⟨_, .cons (.tmp _ _ rfl) .nil, rfl⟩
                · refine have h := iteFb hc h; tK <| ATodo.blk <| tR <| ARun.qv (q_addw rfl rfl) rfl <| rM rfl rfl <| rN <| ATodo.stop <| ?_
                  obtain rfl := Option.some.inj h
                  exact hJ1 _ _ rfl <| ImpX.lq [0] rfl rfl rfl
      · refine have h := iteF hc h; ATodo.exit rfl <| have h := outL h hA1; tS <| tSR <| rL rfl rfl .p0 rfl rfl <| ARun.qv (t_len rfl) rfl <| rM rfl rfl <| rN <| ATodo.block <| ATodo.loopI (fun x : Int => twin_CheckProps_b2 p0x0 x) (fun x σ' => σ' = ⟨57, [(1, .ptr b1 0), (46, .list 5 (p0x0.map PropS.av)), (47, I (p0x0.length : Int)), (48, I x)], [(b1, .cells [.list 5 (p0x0.map PropS.av)])]⟩) h ?_ ?_
        · exact ImpX.lq [0] rfl rfl rfl
        · intro n11 z2 σ' J2 hmk h hJ2 hA2
          obtain rfl := hmk
          replace h : twin_CheckProps_b2 p0x0 n11 = some z2 := h
          unfold twin_CheckProps_b2 at h
          refine tSR <| ARun.qv (q_lss rfl rfl) rfl <| rN <| tS <| ATodo.cond_d rfl (fun hc => ?_) (fun hc => ?_)
          · refine have h := iteT hc h; tK <| tS <| ATodo.block <| tSR <| bndE h fun v12 e5 h => ARun.qv (t_index rfl rfl rfl e5 rfl rfl) rfl <| ARun.qv (q_load_rptr_agg rfl rfl rfl) rfl <| n_alloc rfl rfl rfl rfl fun b13 => n_store_ptr rfl rfl rfl rfl .p0 rfl rfl <| rN <| tSR <| rF rfl rfl rfl <| rL rfl rfl .p0 rfl rfl <| ARun.qv (q_makeFunc rfl) rfl <| bndE h fun v14 e6 h => r_callpB rfl (twin_above_c (fun e => twin_CheckProps_1x_c e) e6) (.cons (.co (.refl _)) (.cons (.funcL _ _ _ (.cons (.boxL _ _ _ .p1 (.cons (.co (.refl _)) .nil)) .nil)) .nil)) rfl rfl <| rN <| ATodo.cond rfl (fun hc => ?_) (fun hc => ?_)
            · refine have h := iteT hc h; tSR <| rA rfl rfl <| rN <| ATodo.ret <| have h := outL h hA2; ?_
              obtain rfl := Option.some.inj h
              exact ImpX.here ⟨_, .cons (.tmp _ _ rfl) .nil, rfl⟩
            · refine have h := iteFb hc h; tK <| ATodo.blk <| tR <| ARun.qv (q_addw rfl rfl) rfl <| rM rfl rfl <| rN <| ATodo.stop <| ?_
              obtain rfl := Option.some.inj h
              exact hJ2 _ _ rfl <| ImpX.lq [1] rfl rfl rfl
          · refine have h := iteF hc h; ATodo.exit rfl <| have h := outL h hA2; tSR <| rA rfl rfl <| rN <| ATodo.ret <| ?_
            obtain rfl := Option.some.inj h
            exact ImpX.here ⟨_, .cons (.tmp _ _ rfl) .nil, rfl⟩

set_option maxHeartbeats 4000000 in
theorem slices_Sort_string_string_k : Sort1 Tryz.prog 207 (fun l => Value.string ⟨l.toArray⟩) srtS := ⟨fun blk off cap zs w hH hb hs => Tryz.slices_Sort_string blk off cap zs w hH hb hs, fun p cap w => Tryz.slices_Sort_string_none p cap w⟩
theorem slices_Sort_string_string_c [GI : GTab] {b_0 : Bk} {p0x0 : List Str} {r : (List Str)} (h : slices_Sort_string_string p0x0 = some r) : ACall Tryz.prog 207 [.sl 1 b_0 0 p0x0.length] [(b_0, .arr 1 (p0x0.map AV.str))] (T0 [(b_0, .arr 1 (r.map AV.str))] (.tup [])) :=
  sort1_acall slices_Sort_string_string_k (g := AV.str) (fun h => h.str_inv) (fun w S x => .str _) (fun _ => rfl) (fun xs => List.length_mergeSort _) (fun _ => rfl) h

set_option maxHeartbeats 4000000 in
theorem slices_Compact_string_string_c [GI : GTab] {b_0 : Bk} {p0x0 : List Str} {r : (List Str)} (h : slices_Compact_string_string p0x0 = some r) : ACall Tryz.prog 208 [.sl 1 b_0 0 p0x0.length] [(b_0, .arr 1 (p0x0.map AV.str))] (T1 (fun d_0 => [(d_0, .arr 1 (r.map AV.str))]) (fun d_0 => .sl 1 d_0 0 r.length)) := by
  unfold slices_Compact_string_string at h
  refine ACall.lessH ?_
  refine ACall.bodyN Tryz.func208 rfl Tryz.ntmps208 Tryz.results208 rfl rfl ?_
  refine tSR <| rA rfl rfl <| rN <| tS <| tSR <| rM rfl rfl <| ARun.qv (t_len_sl rfl) rfl <| ARun.qv (q_lss rfl rfl) rfl <| rN <| ATodo.cond_d rfl (fun hc => ?_) (fun hc => ?_)
  · refine have h := iteT hc h; tSR <| rM rfl rfl <| rA rfl rfl <| rN <| ATodo.ret <| ?_
    obtain rfl := Option.some.inj h
    exact ImpX.here ⟨_, .cons (.tmp _ _ rfl) .nil, _, .cons .p0 .nil, ⟨b_0, rfl, rfl⟩⟩
  · refine have h := iteF hc h; tK <| tS <| tSR <| rA rfl rfl <| rN <| ATodo.block <| ATodo.loopI (fun x : Int => slices_Compact_string_string_b1 p0x0 x) (fun x σ' => σ' = ⟨61, [(0, .sl 1 b_0 0 p0x0.length), (3, I x)], [(b_0, .arr 1 (p0x0.map AV.str))]⟩) h ?_ ?_
    · exact ImpX.lq [0] rfl rfl rfl
    · intro n2 z1 σ' J1 hmk h hJ1 hA1
      obtain rfl := hmk
      replace h : slices_Compact_string_string_b1 p0x0 n2 = some z1 := h
      unfold slices_Compact_string_string_b1 at h
      refine tS <| tSR <| rM rfl rfl <| rM rfl rfl <| ARun.qv (t_len_sl rfl) rfl <| ARun.qv (q_lss rfl rfl) rfl <| rN <| ATodo.cond_d rfl (fun hc => ?_) (fun hc => ?_)
      · refine have h := iteT hc h; tK <| tS <| ATodo.block <| tS <| ATodo.regionM (id := 6) (A := [0, 0, 3, 7, 0, 0, 32, 112, 240, 511]) 10 mixed rfl (by kernel_rfl) (by kernel_rfl) <| AM.qv (q_move rfl) rfl <| AM.qv (q_move rfl) rfl <| bndE h fun v3 e1 h => AM.qv (t_index_sl rfl rfl rfl e1) rfl <| AM.qv (t_load_aptr (g := AV.str) rfl rfl (.inl .p0) e1 rfl) rfl <| AM.qv (q_move rfl) rfl <| AM.qv (q_move rfl) rfl <| AM.qv (q_subw rfl rfl) rfl <| bndE h fun v4 e2 h => AM.qv (t_index_sl rfl rfl rfl e2) rfl <| AM.qv (t_load_aptr (g := AV.str) rfl rfl (.inl .p0) e2 rfl) rfl <| AM.qv (q_seq rfl rfl) rfl <| AM.nil <| rN <| ATodo.cond_d rfl (fun hc => ?_) (fun hc => ?_)
        · refine have h := iteT hc h; tSR <| rM rfl rfl <| rM rfl rfl <| bndE h fun l5 e3 h => ARun.qv (t_slice_sl rfl rfl (.some _ _ _ rfl) .none rfl rfl e3) rfl <| rA rfl rfl <| rN <| tS <| tSR <| rA rfl rfl <| rN <| ATodo.block <| ATodo.loopI (fun x : (List Str) × Int × Int => slices_Compact_string_string_b2 n2 l5 x.1 x.2.1 x.2.2) (fun x σ' => σ' = ⟨61, [(0, .sl 1 b_0 0 x.1.length), (3, I x.2.1), (4, .sl 1 b_0 n2.toNat l5.length), (5, I x.2.2)], [(b_0, .arr 1 (x.1.map AV.str))]⟩) h ?_ ?_
          · exact ImpX.lq [0] rfl rfl rfl
          · intro x z2 σ' J2 hmk h hJ2 hA2
            obtain ⟨l9, n10, n11⟩ := x
            obtain rfl := hmk
            replace h : slices_Compact_string_string_b2 n2 l5 l9 n10 n11 = some z2 := h
            unfold slices_Compact_string_string_b2 at h
            refine tS <| tSR <| rM rfl rfl <| rM rfl rfl <| ARun.qv (t_len_sub rfl) rfl <| ARun.qv (q_lss rfl rfl) rfl <| rN <| ATodo.cond_d rfl (fun hc => ?_) (fun hc => ?_)
            · refine have h := iteT hc h; tK <| tS <| ATodo.block <| tS <| ATodo.regionM (id := 11) (A := [0, 0, 3, 7, 0, 0, 32, 112, 240, 511]) 10 mixed rfl (by kernel_rfl) (by kernel_rfl) <| AM.qv (q_move rfl) rfl <| AM.qv (q_move rfl) rfl <| bndE h fun v12 e4 h => AM.qv (t_index_sub (L := n2) rfl rfl rfl e4) rfl <| AM.qv (t_load_aptr (g := AV.str) rfl rfl (.inl .p0) (idxS_some e4).2 rfl) rfl <| AM.qv (q_move rfl) rfl <| AM.qv (q_move rfl) rfl <| AM.qv (q_subw rfl rfl) rfl <| bndE h fun v13 e5 h => AM.qv (t_index_sub (L := n2) rfl rfl rfl e5) rfl <| AM.qv (t_load_aptr (g := AV.str) rfl rfl (.inl .p0) (idxS_some e5).2 rfl) rfl <| AM.qv (q_sne rfl rfl) rfl <| AM.nil <| rN <| ATodo.cut (fun σ' => ∃ (l14 : List Str) (n15 : Int), slices_Compact_string_string_j1 n11 l14 n15 = some z2 ∧ σ' = ⟨61, [(0, .sl 1 b_0 0 l14.length), (3, I n15), (4, .sl 1 b_0 n2.toNat l5.length), (5, I n11)], [(b_0, .arr 1 (l14.map AV.str))]⟩) ?_ ?_
              · refine ATodo.cond_d rfl (fun hc => ?_) (fun hc => ?_)
                · exact have h := iteT hc h; tSR <| rM rfl rfl <| rM rfl rfl <| rM rfl rfl <| rM rfl rfl <| bndE h fun v16 e6 h => ARun.qv (t_index_sub (L := n2) rfl rfl rfl e6) rfl <| ARun.qv (t_load_aptr (g := AV.str) rfl rfl (.inl .p0) (idxS_some e6).2 rfl) rfl <| bndE h fun v17 e7 h => ARun.qv (t_index_sl rfl rfl rfl e7) rfl <| t_store_aptr1 (g := AV.str) (el' := v16) rfl rfl rfl rfl e7 rfl .p0 rfl <| ARun.ghost <| ImpX.eqs (s := 0) (av' := .sl 1 b_0 0 (l9.set n10.toNat v16).length) rfl (by rw [List.length_set]) <| ImpX.here <| ARun.ghost <| ImpX.eqs (s := 45) (av' := .sl 1 b_0 0 (l9.set n10.toNat v16).length) rfl (by rw [List.length_set]) <| ImpX.here <| rN <| tR <| rM rfl rfl <| ARun.qv (q_addw rfl rfl) rfl <| rA rfl rfl <| rN <| ATodo.stop <| ImpX.lq [0] ⟨l9.set n10.toNat v16, w64 (n10 + (1 : Int)), h, rfl⟩ rfl rfl
                · exact have h := iteF hc h; tK <| ATodo.stop <| ImpX.lq [0] ⟨l9, n10, h, rfl⟩ rfl rfl
              · rintro σ' ⟨l14, n15, h, rfl⟩
                unfold slices_Compact_string_string_j1 at h
                refine ATodo.blk <| tR <| rM rfl rfl <| ARun.qv (q_addw rfl rfl) rfl <| rA rfl rfl <| rN <| ATodo.stop <| ?_
                obtain rfl := Option.some.inj h
                exact hJ2 _ _ rfl <| ImpX.lq [0] rfl rfl rfl
            · refine have h := iteF hc h; ATodo.exit rfl <| have h := outL h hA2; ?_
              unfold slices_Compact_string_string_k2 at h
              refine tSR <| rM rfl rfl <| rM rfl rfl <| bndE h fun l18 e8 h => ARun.qv (t_slice_sl rfl rfl (.some _ _ _ rfl) .none rfl rfl e8) rfl <| t_clear (g := AV.str) (Z := []) (L := n10) rfl rfl rfl rfl rfl rfl e8 .p0 <| ARun.ghost <| ImpX.eqs (s := 0) (av' := .sl 1 b_0 0 (clr l9 n10 l18.length []).length) rfl (congrArg (AV.sl 1 b_0 0) (clr_len e8)) <| ImpX.here <| ARun.ghost <| ImpX.eqs (s := 54) (av' := .sl 1 b_0 0 (clr l9 n10 l18.length []).length) rfl (congrArg (AV.sl 1 b_0 0) (clr_len e8)) <| ImpX.here <| rN <| tSR <| rM rfl rfl <| rM rfl rfl <| bndE h fun l19 e9 h => ARun.qv (t_slice_sl rfl rfl .none (.some _ _ _ rfl) rfl rfl e9) rfl <| rA rfl rfl <| ARun.ghost <| ImpX.takeT e9 .p0 <| ImpX.here <| rN <| ATodo.ret <| have h := outL h hA1; ?_
              obtain rfl := Option.some.inj h
              exact ImpX.here ⟨_, .cons (.tmp _ _ rfl) .nil, _, .cons .p0 .nil, ⟨b_0, rfl, rfl⟩⟩
        · refine have h := iteF hc h; tK <| ATodo.blk <| tR <| rM rfl rfl <| ARun.qv (q_addw rfl rfl) rfl <| rA rfl rfl <| rN <| ATodo.stop <| ?_
          obtain rfl := Option.some.inj h
          exact hJ1 _ _ rfl <| ImpX.lq [0] rfl rfl rfl
      · refine have h := iteF hc h; ATodo.exit rfl <| have h := outL h hA1; tSR <| rM rfl rfl <| rA rfl rfl <| rN <| ATodo.ret <| ?_
        obtain rfl := Option.some.inj h
        exact ImpX.here ⟨_, .cons (.tmp _ _ rfl) .nil, _, .cons .p0 .nil, ⟨b_0, rfl, rfl⟩⟩

set_option maxHeartbeats 4000000 in
theorem twin_names_c [GI : GTab] {p0x0 : List (List PropS)} {r : (List Str)} (h : twin_names p0x0 = some r) : ACall Tryz.prog 163 [.list 1 (p0x0.map (encL 5 PropS.av))] [] (T1 (fun d_0 => [(d_0, .arr 1 (r.map AV.str))]) (fun d_0 => .sl 1 d_0 0 r.length)) := by
  unfold twin_names at h
  refine ACall.lessH ?_
  refine ACall.bodyN Tryz.func163 rfl Tryz.ntmps163 Tryz.results163 rfl rfl ?_
  refine tSR <| rA rfl rfl <| rN <| tSR <| rA rfl rfl <| rN <| tS <| tSR <| rM rfl rfl <| ARun.qv (t_len rfl) rfl <| rM rfl rfl <| rN <| ATodo.block <| ATodo.loopI (fun x : (List Str) × Int => twin_names_b1 p0x0 x.1 x.2) (fun x σ' => ∃ (b4 : Bk), σ' = ⟨31, [(3, .sl 1 b4 0 x.1.length), (8, .list 1 (p0x0.map (encL 5 PropS.av))), (9, I (p0x0.length : Int)), (10, I x.2)], [(b4, .arr 1 (x.1.map AV.str))]⟩) h ?_ ?_
  · exact ImpX.arr (s := 3) 1 rfl fun b7 => ImpX.lq [0] ⟨b7, rfl⟩ rfl rfl
  · intro x z1 σ' J1 hmk h hJ1 hA1
    obtain ⟨l5, n6⟩ := x
    obtain ⟨b4, rfl⟩ := hmk
    replace h : twin_names_b1 p0x0 l5 n6 = some z1 := h
    unfold twin_names_b1 at h
    refine tSR <| ARun.qv (q_lss rfl rfl) rfl <| rN <| tS <| ATodo.cond_d rfl (fun hc => ?_) (fun hc => ?_)
    · refine have h := iteT hc h; tK <| tS <| ATodo.block <| tSR <| bndE h fun v8 e1 h => ARun.qv (t_index rfl rfl rfl e1 rfl rfl) rfl <| ARun.qv (q_load_rptr rfl rfl rfl) rfl <| rA rfl rfl <| rN <| tSR <| rM rfl rfl <| ARun.qv (t_len rfl) rfl <| rM rfl rfl <| rN <| ATodo.block <| ATodo.loopI (fun x : (List Str) × Int => twin_names_b2 n6 v8 x.1 x.2) (fun x σ' => ∃ (b12 : Bk), σ' = ⟨31, [(3, .sl 1 b12 0 x.1.length), (8, .list 1 (p0x0.map (encL 5 PropS.av))), (9, I (p0x0.length : Int)), (10, I n6), (14, .list 5 (v8.map PropS.av)), (15, I (v8.length : Int)), (16, I x.2)], [(b12, .arr 1 (x.1.map AV.str))]⟩) h ?_ ?_
      · exact ImpX.lq [0] ⟨b4, rfl⟩ rfl rfl
      · intro x z2 σ' J2 hmk h hJ2 hA2
        obtain ⟨l13, n14⟩ := x
        obtain ⟨b12, rfl⟩ := hmk
        replace h : twin_names_b2 n6 v8 l13 n14 = some z2 := h
        unfold twin_names_b2 at h
        refine tSR <| ARun.qv (q_lss rfl rfl) rfl <| rN <| tS <| ATodo.cond_d rfl (fun hc => ?_) (fun hc => ?_)
        · refine have h := iteT hc h; tK <| tS <| ATodo.block <| tSR <| bndE h fun v15 e2 h => ARun.qv (t_index rfl rfl rfl e2 rfl rfl) rfl <| ARun.qv (q_load_rptr_agg rfl rfl rfl) rfl <| n_alloc rfl rfl rfl rfl fun b16 => n_store_ptr rfl rfl rfl rfl .p0 rfl rfl <| rN <| tR <| rM rfl rfl <| rF rfl rfl rfl <| rL rfl rfl .p0 rfl rfl <| n_buildSliceL (xs := ([v15.Name] : List Str).map AV.str) rfl rfl rfl rfl rfl rfl <| bndE h fun l17 e3 h => t_append (g := AV.str) rfl rfl rfl rfl rfl rfl rfl rfl (.list _) e3 (fun _ => .p1) rfl fun b18 => rA rfl rfl <| rN <| ATodo.blk <| tR <| ARun.qv (q_addw rfl rfl) rfl <| rM rfl rfl <| rN <| ATodo.stop <| ?_
          obtain rfl := Option.some.inj h
          exact hJ2 _ _ rfl <| ImpX.lq [1] ⟨b18, rfl⟩ rfl rfl
        · refine have h := iteF hc h; ATodo.exit rfl <| have h := outL h hA2; ATodo.blk <| tR <| ARun.qv (q_addw rfl rfl) rfl <| rM rfl rfl <| rN <| ATodo.stop <| ?_
          obtain rfl := Option.some.inj h
          exact hJ1 _ _ rfl <| ImpX.lq [0] ⟨b12, rfl⟩ rfl rfl
    · refine have h := iteF hc h; ATodo.exit rfl <| have h := outL h hA1; ?_
      unfold twin_names_k1 at h
      refine tSR <| rM rfl rfl <| bndE h fun v19 e4 h => t_call0 rfl (slices_Sort_string_string_c (lenOk_f e4)) (CoL.refl _) (.cons .p0 .nil) rfl rfl <| ARun.ghost <| ImpX.eqs (s := 3) (av' := .sl 1 b4 0 v19.length) rfl (congrArg (AV.sl 1 b4 0) (lenOk_l e4)) <| ImpX.here <| ARun.ghost <| ImpX.eqs (s := 27) (av' := .sl 1 b4 0 v19.length) rfl (congrArg (AV.sl 1 b4 0) (lenOk_l e4)) <| ImpX.here <| rN <| tSR <| rM rfl rfl <| bndE h fun v20 e5 h => t_call1 rfl (slices_Compact_string_string_c e5) (CoL.refl _) (.cons .p0 .nil) (fun _ => rfl) rfl fun b21 => rA rfl rfl <| rN <| ATodo.ret <| ?_
      obtain rfl := Option.some.inj h
      exact ImpX.here ⟨_, .cons (.tmp _ _ rfl) .nil, _, .cons .p0 .nil, ⟨b21, rfl, rfl⟩⟩

set_option maxHeartbeats 4000000 in
theorem twin_valueOf_c [GI : GTab] {p0x0 : List PropS} {p1x0 : Str} {r : ValueS} (h : twin_valueOf p0x0 p1x0 = some r) : Pu Tryz.prog 164 [.list 5 (p0x0.map PropS.av), .str p1x0] (.agg [I r.Kind, .bool r.Flag, I r.Number, .str r.Words]) := by
  unfold twin_valueOf at h
  refine ACall.bodyN Tryz.func164 rfl Tryz.ntmps164 Tryz.results164 rfl rfl ?_
  refine tSR <| n_alloc rfl rfl rfl rfl fun b1 => rN <| tS <| tSR <| rM rfl rfl <| rM rfl rfl <| bndE h fun v2 e1 h => r_callp rfl (twin_find_c e1) (CoL.refl _) rfl <| rA rfl rfl <| rN <| tSR <| rM rfl rfl <| ARun.qv (q_geq rfl rfl) rfl <| rN <| ATodo.cond_d rfl (fun hc => ?_) (fun hc => ?_)
  · refine have h := iteT hc h; tSR <| rM rfl rfl <| rM rfl rfl <| bndE h fun v3 e2 h => ARun.qv (t_index rfl rfl rfl e2 rfl rfl) rfl <| ARun.qv (n_field_rptr rfl rfl) rfl <| ARun.qv (q_load_rptr_agg rfl rfl rfl) rfl <| n_store_ptr rfl rfl rfl rfl .p0 rfl rfl <| rN <| ATodo.ret <| ?_
    obtain rfl := Option.some.inj h
    exact ImpX.here ⟨_, .cons (.all _ _ _ _ _ _ rfl .p0 TUnder.h TInfo.h rfl rfl) .nil, rfl⟩
  · refine have h := iteF hc h; tK <| tSR <| ARun.qv (n_build rfl rfl rfl rfl rfl) rfl <| n_store_ptr rfl rfl rfl rfl .p0 rfl rfl <| rN <| ATodo.ret <| ?_
    obtain rfl := Option.some.inj h
    exact ImpX.here ⟨_, .cons (.all _ _ _ _ _ _ rfl .p0 TUnder.h TInfo.h rfl rfl) .nil, rfl⟩

set_option maxHeartbeats 4000000 in
theorem twin_Differ_c {p0x0 : List PropS} {p1x0 : List PropS} {r : (List Change) × Int} (h : twin_Differ p0x0 p1x0 = some r) : ACall Tryz.prog 113 [.list 5 (p0x0.map PropS.av), .list 5 (p1x0.map PropS.av)] [] (T1 (fun d_0 => [(d_0, .arr 9 (r.1.map Change.av))]) (fun d_0 => .tup [.sl 9 d_0 0 r.1.length, I r.2])) := by
  unfold twin_Differ at h
  refine ACall.lessH ?_
  refine ACall.bodyN Tryz.func113 rfl Tryz.ntmps113 Tryz.results113 rfl rfl ?_
  refine tSR <| rA rfl rfl <| rA rfl rfl <| rN <| tS <| tSR <| rM rfl rfl <| bndE h fun v1 e1 h => r_callp rfl (twin_CheckProps_c e1) (CoL.refl _) rfl <| rM rfl rfl <| bndE h fun v2 e2 h => r_callp rfl (twin_CheckProps_c e2) (CoL.refl _) rfl <| n_buildSliceL (xs := ([v1, v2] : List Int).map I) rfl rfl rfl rfl rfl rfl <| bndE h fun v3 e3 h => r_callp rfl (base_First_c e3) (CoL.refl _) rfl <| rA rfl rfl <| rN <| tSR <| rM rfl rfl <| ARun.qv (q_neq rfl rfl) rfl <| rN <| ATodo.cond_d rfl (fun hc => ?_) (fun hc => ?_)
  · refine have h := iteT hc h; tSR <| rM rfl rfl <| rA rfl rfl <| rA rfl rfl <| rN <| ATodo.ret <| ?_
    obtain rfl := Option.some.inj h
    exact ImpX.arr (s := 4) 9 rfl fun b4 => ImpX.here ⟨_, .cons (.tmp _ _ rfl) (.cons (.tmp _ _ rfl) .nil), _, .cons .p0 .nil, ⟨b4, rfl, rfl⟩⟩
  · refine have h := iteF hc h; tK <| tSR <| rA rfl rfl <| rN <| tS <| tSR <| rM rfl rfl <| rM rfl rfl <| n_buildSliceL (xs := ([p0x0, p1x0] : List (List PropS)).map (encL 5 PropS.av)) rfl rfl rfl rfl rfl rfl <| bndE h fun v5 e4 h => t_call1 rfl (twin_names_c e4) (CoL.refl _) .nil (fun _ => rfl) rfl fun b6 => ARun.qv (t_len_sl rfl) rfl <| rM rfl rfl <| rN <| ATodo.block <| ATodo.loopI (fun x : (List Change) × Int => twin_Differ_b1 p0x0 p1x0 v5 x.1 x.2) (fun x σ' => ∃ (b10 : Bk), σ' = ⟨48, [(0, .list 5 (p0x0.map PropS.av)), (1, .list 5 (p1x0.map PropS.av)), (7, .sl 9 b10 0 x.1.length), (24, .sl 1 b6 0 v5.length), (25, I (v5.length : Int)), (26, I x.2)], [(b10, .arr 9 (x.1.map Change.av)), (b6, .arr 1 (v5.map AV.str))]⟩) h ?_ ?_
    · exact ImpX.arr (s := 7) 9 rfl fun b13 => ImpX.lq [0, 0] ⟨b13, rfl⟩ rfl rfl
    · intro x z1 σ' J1 hmk h hJ1 hA1
      obtain ⟨l11, n12⟩ := x
      obtain ⟨b10, rfl⟩ := hmk
      replace h : twin_Differ_b1 p0x0 p1x0 v5 l11 n12 = some z1 := h
      unfold twin_Differ_b1 at h
      refine tSR <| ARun.qv (q_lss rfl rfl) rfl <| rN <| tS <| ATodo.cond_d rfl (fun hc => ?_) (fun hc => ?_)
      · refine have h := iteT hc h; tK <| tS <| ATodo.block <| tSR <| bndE h fun v14 e5 h => ARun.qv (t_index_sl rfl rfl rfl e5) rfl <| ARun.qv (t_load_aptr (g := AV.str) rfl rfl (.inl .p1) e5 rfl) rfl <| rA rfl rfl <| rN <| tSR <| rM rfl rfl <| rM rfl rfl <| bndE h fun v15 e6 h => r_callp rfl (twin_valueOf_c e6) (CoL.refl _) rfl <| rM rfl rfl <| rM rfl rfl <| bndE h fun v16 e7 h => r_callp rfl (twin_valueOf_c e7) (CoL.refl _) rfl <| n_alloc rfl rfl rfl rfl fun b17 => n_alloc rfl rfl rfl rfl fun b18 => n_store_ptr rfl rfl rfl rfl .p1 rfl rfl <| n_store_ptr rfl rfl rfl rfl .p0 rfl rfl <| rN <| tSR <| ARun.qv (q_load_ptr_all rfl rfl .p1 rfl) rfl <| ARun.qv (q_load_ptr_all rfl rfl .p0 rfl) rfl <| ARun.qv (t_tne (g := ValueS.av) (X := v15) (Y := v16) rfl rfl rfl rfl rfl) rfl <| rN <| ATodo.cut (fun σ' => ∃ (b19 : Bk) (l20 : List Change), twin_Differ_j1 n12 l20 = some z1 ∧ σ' = ⟨48, [(0, .list 5 (p0x0.map PropS.av)), (1, .list 5 (p1x0.map PropS.av)), (7, .sl 9 b19 0 l20.length), (24, .sl 1 b6 0 v5.length), (25, I (v5.length : Int)), (26, I n12)], [(b19, .arr 9 (l20.map Change.av)), (b6, .arr 1 (v5.map AV.str))]⟩) ?_ ?_
        · refine ATodo.cond_d rfl (fun hc => ?_) (fun hc => ?_)
          · exact have h := iteT hc h; tR <| rM rfl rfl <| rM rfl rfl <| ARun.qv (q_load_ptr_all rfl rfl .p1 rfl) rfl <| ARun.qv (q_load_ptr_all rfl rfl .p0 rfl) rfl <| ARun.qv (n_build rfl rfl rfl rfl rfl) rfl <| n_buildSliceL (xs := ([(⟨v14, v15, v16⟩ : Change)]).map Change.av) rfl rfl rfl rfl rfl rfl <| bndE h fun l21 e8 h => t_append (g := Change.av) rfl rfl rfl rfl rfl rfl rfl rfl (.list _) e8 (fun _ => .p2) rfl fun b22 => rA rfl rfl <| rN <| ATodo.stop <| ImpX.lq [2, 2] ⟨b22, l21, h, rfl⟩ rfl rfl
          · exact have h := iteF hc h; tK <| ATodo.stop <| ImpX.lq [2, 2] ⟨b10, l11, h, rfl⟩ rfl rfl
        · rintro σ' ⟨b19, l20, h, rfl⟩
          unfold twin_Differ_j1 at h
          refine ATodo.blk <| tR <| ARun.qv (q_addw rfl rfl) rfl <| rM rfl rfl <| rN <| ATodo.stop <| ?_
          obtain rfl := Option.some.inj h
          exact hJ1 _ _ rfl <| ImpX.lq [0, 0] ⟨b19, rfl⟩ rfl rfl
      · refine have h := iteF hc h; ATodo.exit rfl <| have h := outL h hA1; tSR <| rM rfl rfl <| rA rfl rfl <| rA rfl rfl <| rN <| ATodo.ret <| ?_
        obtain rfl := Option.some.inj h
        exact ImpX.here ⟨_, .cons (.tmp _ _ rfl) (.cons (.tmp _ _ rfl) .nil), _, .cons .p0 .nil, ⟨b10, rfl, rfl⟩⟩

set_option maxHeartbeats 4000000 in
theorem L_twinned_c {r : Bool} (h : L_twinned = some r) : Pu Tryz.prog 43 [] (.bool r) := by
  unfold L_twinned at h
  refine ACall.bodyN Tryz.func43 rfl Tryz.ntmps43 Tryz.results43 rfl rfl ?_
  refine tSR <| rA rfl rfl <| rN <| tSR <| ARun.qv (n_build rfl rfl rfl rfl rfl) rfl <| ARun.qv (n_build rfl rfl rfl rfl rfl) rfl <| n_buildSliceL (xs := ([(⟨([97] : Str), (⟨(1 : Int), false, (0 : Int), []⟩ : ValueS)⟩ : PropS)]).map PropS.av) rfl rfl rfl rfl rfl rfl <| bndE h fun v1 e1 h => t_call1 rfl (twin_Differ_c e1) (.cons (.nil _) (.cons (.refl _) .nil)) .nil (fun _ => rfl) rfl fun b2 => rM rfl rfl <| rX rfl rfl rfl <| rX rfl rfl rfl <| rA rfl rfl <| rA rfl rfl <| rN <| tS <| ATodo.cut (fun σ' => ∃ (c3 : Bool), L_twinned_j1 c3 = some r ∧ σ' = ⟨24, [(0, .bool c3)], []⟩) ?_ ?_
  · refine tR <| rM rfl rfl <| ARun.qv (q_eql rfl rfl) rfl <| rM rfl rfl <| ARun.guard_dt rfl rfl rfl (fun hc => ?_) (fun hc => ?_)
    · refine have h := iteT hc h; rM rfl rfl <| rY rfl rfl rfl <| ARun.qv (t_len_sl rfl) rfl <| rY rfl rfl rfl <| ARun.qv (q_eql rfl rfl) rfl <| rT rfl rfl rfl <| rM rfl rfl <| ARun.guard_dt rfl rfl rfl (fun hc => ?_) (fun hc => ?_)
      · exact have h := iteT hc h; rM rfl rfl <| rY rfl rfl rfl <| bndE h fun v4 e2 h => ARun.qv (t_index_sl rfl rfl rfl e2) rfl <| rY rfl rfl rfl <| ARun.qv (t_field_aptr rfl rfl) rfl <| rY rfl rfl rfl <| ARun.qv (t_load_aptr (g := Change.av) rfl rfl (.inl .p0) e2 rfl) rfl <| rY rfl rfl rfl <| ARun.qv (q_seq rfl rfl) rfl <| rT rfl rfl rfl <| rA rfl rfl <| rN <| ATodo.stop <| ImpX.lq [] ⟨decide (v4.Name = ([97] : Str)), h, rfl⟩ rfl rfl
      · exact have h := iteF hc h; rG rfl rfl rfl rfl <| rG rfl rfl rfl rfl <| rG rfl rfl rfl rfl <| rG rfl rfl rfl rfl <| rE rfl rfl rfl <| rA rfl rfl <| rN <| ATodo.stop <| ImpX.lq [] ⟨false, h, rfl⟩ rfl rfl
    · exact have h := iteF hc h; rG rfl rfl rfl rfl <| rG rfl rfl rfl rfl <| rE rfl rfl rfl <| rM rfl rfl <| rG rfl rfl rfl rfl <| rG rfl rfl rfl rfl <| rG rfl rfl rfl rfl <| rG rfl rfl rfl rfl <| rG rfl rfl rfl rfl <| rE rfl rfl rfl <| rA rfl rfl <| rN <| ATodo.stop <| ImpX.lq [] ⟨false, h, rfl⟩ rfl rfl
  · rintro σ' ⟨c3, h, rfl⟩
    unfold L_twinned_j1 at h
    refine ATodo.ret <| ?_
    obtain rfl := Option.some.inj h
    exact ImpX.here ⟨_, .cons (.tmp _ _ rfl) .nil, rfl⟩

set_option maxHeartbeats 4000000 in
theorem L_CellTexts_c {p0x0 : List Int} {r : Bool} (h : L_CellTexts p0x0 = some r) : Pu Tryz.prog 6 [.list 1 (p0x0.map I)] (.bool r) := by
  unfold L_CellTexts at h
  refine ACall.bodyN Tryz.func6 rfl Tryz.ntmps6 Tryz.results6 rfl rfl ?_
  refine tSR <| rA rfl rfl <| rN <| tSR <| rM rfl rfl <| ARun.qv (n_build rfl rfl rfl rfl rfl) rfl <| n_box rfl rfl rfl rfl fun b1 => rA rfl rfl <| rN <| tSR <| rM rfl rfl <| bndE h fun v2 e1 h => t_call1 rfl (Stream_Cells_c e1) (CoL.refl _) (.cons .p0 .nil) (fun _ => rfl) rfl fun b3 => rM rfl rfl <| bndE h fun v4 e2 h => t_call0 rfl (Stream_CellText_c e2) (CoL.refl _) (.cons .p0 .nil) rfl rfl <| rA rfl rfl <| rA rfl rfl <| rN <| tSR <| rM rfl rfl <| bndE h fun v5 e3 h => r_callpB rfl (twin_Text_c e3) (.cons (CoB.arrT .p1) .nil) rfl rfl <| rM rfl rfl <| rX rfl rfl rfl <| rX rfl rfl rfl <| rA rfl rfl <| rA rfl rfl <| rN <| tSR <| rM rfl rfl <| bndE h fun v6 e4 h => r_callpB rfl (Q_CellsFault_c e4) (.cons (CoB.arrT .p1) .nil) rfl rfl <| rA rfl rfl <| rA rfl rfl <| rN <| tS <| tSR <| rM rfl rfl <| ARun.qv (q_eql rfl rfl) rfl <| rN <| ATodo.cut (fun σ' => ∃ (q7 : Str), L_CellTexts_j1 v4 v5 v6 q7 = some r ∧ σ' = ⟨72, [(5, .str v4.1), (6, .str v5.1), (7, I v5.2), (8, I v6), (9, .str q7)], []⟩) ?_ ?_
  · refine ATodo.cond_d rfl (fun hc => ?_) (fun hc => ?_)
    · exact have h := iteT hc h; tR <| rM rfl rfl <| bndE h fun v8 e5 h => r_callpB rfl (Q_CellLines_c e5) (.cons (CoB.arrT .p1) .nil) rfl rfl <| rA rfl rfl <| rN <| ATodo.stop <| ImpX.lq [] ⟨v8, h, rfl⟩ rfl rfl
    · exact have h := iteF hc h; tK <| ATodo.stop <| ImpX.lq [] ⟨([] : Str), h, rfl⟩ rfl rfl
  · rintro σ' ⟨q7, h, rfl⟩
    unfold L_CellTexts_j1 at h
    refine tSR <| rM rfl rfl <| bndE h fun v9 e6 h => t_call1 rfl (twin_Read_c e6) (CoL.refl _) .nil (fun _ => rfl) rfl fun b10 => rM rfl rfl <| rX rfl rfl rfl <| rX rfl rfl rfl <| rX rfl rfl rfl <| rA rfl rfl <| rA rfl rfl <| rA rfl rfl <| rN <| tSR <| rM rfl rfl <| bndE h fun v11 e7 h => t_call1 rfl (Q_CellsRead_c e7) (CoL.refl _) .nil (fun _ => rfl) rfl fun b12 => rM rfl rfl <| rX rfl rfl rfl <| rX rfl rfl rfl <| rX rfl rfl rfl <| rA rfl rfl <| rA rfl rfl <| rA rfl rfl <| rN <| tS <| ATodo.cut (fun σ' => ∃ (c13 : Bool), L_CellTexts_j2 c13 = some r ∧ σ' = ⟨72, [(2, .bool c13)], []⟩) ?_ ?_
    · refine tR <| rM rfl rfl <| rM rfl rfl <| ARun.qv (q_eql rfl rfl) rfl <| rM rfl rfl <| ARun.guard_dt rfl rfl rfl (fun hc => ?_) (fun hc => ?_)
      · refine have h := iteT hc h; rM rfl rfl <| rY rfl rfl rfl <| rM rfl rfl <| rY rfl rfl rfl <| ARun.qv (q_seq rfl rfl) rfl <| rT rfl rfl rfl <| rM rfl rfl <| ARun.guard_dt rfl rfl rfl (fun hc => ?_) (fun hc => ?_)
        · refine have h := iteT hc h; rM rfl rfl <| rY rfl rfl rfl <| rM rfl rfl <| rY rfl rfl rfl <| bndE h fun v14 e8 h => r_callpB rfl (slices_Equal_Cell_Cell_c e8) (.cons (CoB.arrT .p1) (.cons (CoB.arrT .p0) .nil)) rfl rfl <| rT rfl rfl rfl <| rM rfl rfl <| ARun.guard rfl rfl rfl (fun hc => ?_) (fun hc => ?_)
          · refine have h := iteT hc h; rM rfl rfl <| rY rfl rfl rfl <| rM rfl rfl <| rY rfl rfl rfl <| ARun.qv (q_eql rfl rfl) rfl <| rT rfl rfl rfl <| rM rfl rfl <| ARun.guard_dt rfl rfl rfl (fun hc => ?_) (fun hc => ?_)
            · refine have h := iteT hc h; rM rfl rfl <| rY rfl rfl rfl <| rM rfl rfl <| rY rfl rfl rfl <| ARun.qv (q_eql rfl rfl) rfl <| rT rfl rfl rfl <| rM rfl rfl <| ARun.guard_dt rfl rfl rfl (fun hc => ?_) (fun hc => ?_)
              · exact have h := iteT hc h; bndE h fun v15 e9 h => r_callp rfl (L_twinned_c e9) (CoL.refl _) rfl <| rT rfl rfl rfl <| rA rfl rfl <| rN <| ATodo.stop <| ImpX.lq [] ⟨v15, h, rfl⟩ rfl rfl
              · exact have h := iteF hc h; rE rfl rfl rfl <| rA rfl rfl <| rN <| ATodo.stop <| ImpX.lq [] ⟨false, h, rfl⟩ rfl rfl
            · exact have h := iteF hc h; rG rfl rfl rfl rfl <| rG rfl rfl rfl rfl <| rE rfl rfl rfl <| rM rfl rfl <| rG rfl rfl rfl rfl <| rE rfl rfl rfl <| rA rfl rfl <| rN <| ATodo.stop <| ImpX.lq [] ⟨false, h, rfl⟩ rfl rfl
          · exact have h := iteFb hc h; rG rfl rfl rfl rfl <| rG rfl rfl rfl rfl <| rE rfl rfl rfl <| rM rfl rfl <| rG rfl rfl rfl rfl <| rG rfl rfl rfl rfl <| rG rfl rfl rfl rfl <| rE rfl rfl rfl <| rM rfl rfl <| rG rfl rfl rfl rfl <| rE rfl rfl rfl <| rA rfl rfl <| rN <| ATodo.stop <| ImpX.lq [] ⟨false, h, rfl⟩ rfl rfl
        · exact have h := iteF hc h; rG rfl rfl rfl rfl <| rG rfl rfl rfl rfl <| rE rfl rfl rfl <| rM rfl rfl <| rG rfl rfl rfl rfl <| rG rfl rfl rfl rfl <| rG rfl rfl rfl rfl <| rE rfl rfl rfl <| rM rfl rfl <| rG rfl rfl rfl rfl <| rG rfl rfl rfl rfl <| rG rfl rfl rfl rfl <| rE rfl rfl rfl <| rM rfl rfl <| rG rfl rfl rfl rfl <| rE rfl rfl rfl <| rA rfl rfl <| rN <| ATodo.stop <| ImpX.lq [] ⟨false, h, rfl⟩ rfl rfl
      · exact have h := iteF hc h; rG rfl rfl rfl rfl <| rG rfl rfl rfl rfl <| rE rfl rfl rfl <| rM rfl rfl <| rG rfl rfl rfl rfl <| rG rfl rfl rfl rfl <| rG rfl rfl rfl rfl <| rE rfl rfl rfl <| rM rfl rfl <| rG rfl rfl rfl rfl <| rG rfl rfl rfl rfl <| rG rfl rfl rfl rfl <| rE rfl rfl rfl <| rM rfl rfl <| rG rfl rfl rfl rfl <| rG rfl rfl rfl rfl <| rG rfl rfl rfl rfl <| rE rfl rfl rfl <| rM rfl rfl <| rG rfl rfl rfl rfl <| rE rfl rfl rfl <| rA rfl rfl <| rN <| ATodo.stop <| ImpX.lq [] ⟨false, h, rfl⟩ rfl rfl
    · rintro σ' ⟨c13, h, rfl⟩
      unfold L_CellTexts_j2 at h
      refine ATodo.ret <| ?_
      obtain rfl := Option.some.inj h
      exact ImpX.here ⟨_, .cons (.tmp _ _ rfl) .nil, rfl⟩

end Go.Proofs.YtlhoigimdehaeaaGreatDoor

