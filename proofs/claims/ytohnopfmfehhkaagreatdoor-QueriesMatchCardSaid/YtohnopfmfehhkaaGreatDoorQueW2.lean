/- The code computes the plain functions: proofs written by shal.py. -/
import Derived.Test.YtohnopfmfehhkaaGreatDoorQueW1
set_option maxRecDepth 100000
set_option linter.unusedVariables false
set_option linter.unusedSimpArgs false
namespace Go.Proofs.YtohnopfmfehhkaaGreatDoor
open Go Go.Eng Go.Proofs Go.Beacon
attribute [local irreducible] ARun ATodo AQ QV ACall ImpX AWp AM
set_option maxHeartbeats 4000000 in
theorem item_Matches_1x_c [GI : GTab] {p0x0 : Str} {p1x0 : ItemS} {r : Item_Held} (h : item_Matches_1x p0x0 p1x0 = some r) : Pu Tryz.prog 177 [.str p0x0, .rptr [.str p1x0.Device.Key, .str p1x0.Device.Model, .str p1x0.Device.Tenant, I p1x0.Device.Firmware.Major, I p1x0.Device.Firmware.Minor, I p1x0.Device.Firmware.Patch, .list 2 (p1x0.Device.Tags.map Pair.av), .list 5 (p1x0.Props.map PropS.av)]] (.agg [.bool r.Is, I r.Value.Kind, .bool r.Value.Flag, I r.Value.Number, .str r.Value.Words, I r.Version.Major, I r.Version.Minor, I r.Version.Patch]) := by
  unfold item_Matches_1x at h
  refine ACall.bodyN Tryz.func177 rfl Tryz.ntmps177 Tryz.results177 rfl rfl ?_
  refine tSR <| n_alloc rfl rfl rfl rfl fun b1 => rN <| tSR <| ARun.qv (q_load_rptr_agg rfl rfl rfl) rfl <| rM rfl rfl <| bndE h fun v2 e1 h => r_callp rfl (item_look_c e1) (CoL.refl _) rfl <| n_store_ptr rfl rfl rfl rfl .p0 rfl rfl <| rN <| ATodo.ret <| ?_
  obtain rfl := Option.some.inj h
  exact ImpX.here ⟨_, .cons (.all _ _ _ _ _ _ rfl .p0 TUnder.h TInfo.h rfl rfl) .nil, rfl⟩

set_option maxHeartbeats 4000000 in
theorem cmp_isNaN_int_c [GI : GTab] {p0x0 : Int} {r : Bool} (h : cmp_isNaN_int p0x0 = r) : Pu Tryz.prog 185 [I p0x0] (.bool r) := by
  unfold cmp_isNaN_int at h
  refine ACall.bodyN Tryz.func185 rfl Tryz.ntmps185 Tryz.results185 rfl rfl ?_
  refine tSR <| rA rfl rfl <| rN <| tSR <| rM rfl rfl <| rM rfl rfl <| ARun.qv (q_neq rfl rfl) rfl <| rA rfl rfl <| rN <| ATodo.ret <| ?_
  obtain rfl := h
  exact ImpX.here ⟨_, .cons (.tmp _ _ rfl) .nil, rfl⟩

set_option maxHeartbeats 4000000 in
theorem cmp_Compare_int_c [GI : GTab] {p0x0 : Int} {p1x0 : Int} {r : Int} (h : cmp_Compare_int p0x0 p1x0 = r) : Pu Tryz.prog 133 [I p0x0, I p1x0] (I r) := by
  unfold cmp_Compare_int at h
  refine ACall.bodyN Tryz.func133 rfl Tryz.ntmps133 Tryz.results133 rfl rfl ?_
  refine tSR <| rA rfl rfl <| rN <| tSR <| rM rfl rfl <| r_callp rfl (cmp_isNaN_int_c rfl) (CoL.refl _) rfl <| rA rfl rfl <| rN <| tSR <| rM rfl rfl <| r_callp rfl (cmp_isNaN_int_c rfl) (CoL.refl _) rfl <| rA rfl rfl <| rN <| tS <| tSR <| rM rfl rfl <| rN <| ATodo.cond rfl (fun hc => ?_) (fun hc => ?_)
  · refine have h := iteT hc h; tS <| tSR <| rM rfl rfl <| rN <| ATodo.cond rfl (fun hc => ?_) (fun hc => ?_)
    · refine have h := iteT hc h; tSR <| rA rfl rfl <| rN <| ATodo.ret <| ?_
      obtain rfl := h
      exact ImpX.here ⟨_, .cons (.tmp _ _ rfl) .nil, rfl⟩
    · refine have h := iteFb hc h; tK <| tSR <| rA rfl rfl <| rN <| ATodo.ret <| ?_
      obtain rfl := h
      exact ImpX.here ⟨_, .cons (.tmp _ _ rfl) .nil, rfl⟩
  · refine have h := iteFb hc h; tK <| tS <| tSR <| rM rfl rfl <| rN <| ATodo.cond rfl (fun hc => ?_) (fun hc => ?_)
    · refine have h := iteT hc h; tSR <| rA rfl rfl <| rN <| ATodo.ret <| ?_
      obtain rfl := h
      exact ImpX.here ⟨_, .cons (.tmp _ _ rfl) .nil, rfl⟩
    · refine have h := iteFb hc h; tK <| tS <| tSR <| rM rfl rfl <| rM rfl rfl <| ARun.qv (q_lss rfl rfl) rfl <| rN <| ATodo.cond_d rfl (fun hc => ?_) (fun hc => ?_)
      · refine have h := iteT hc h; tSR <| rA rfl rfl <| rN <| ATodo.ret <| ?_
        obtain rfl := h
        exact ImpX.here ⟨_, .cons (.tmp _ _ rfl) .nil, rfl⟩
      · refine have h := iteF hc h; tK <| tS <| tSR <| rM rfl rfl <| rM rfl rfl <| ARun.qv (q_gtr rfl rfl) rfl <| rN <| ATodo.cond_d rfl (fun hc => ?_) (fun hc => ?_)
        · refine have h := iteT hc h; tSR <| rA rfl rfl <| rN <| ATodo.ret <| ?_
          obtain rfl := h
          exact ImpX.here ⟨_, .cons (.tmp _ _ rfl) .nil, rfl⟩
        · refine have h := iteF hc h; tK <| tSR <| rA rfl rfl <| rN <| ATodo.ret <| ?_
          obtain rfl := h
          exact ImpX.here ⟨_, .cons (.tmp _ _ rfl) .nil, rfl⟩

set_option maxHeartbeats 4000000 in
theorem cmp_Or_int_c [GI : GTab] {p0x0 : List Int} {r : Int} (h : cmp_Or_int p0x0 = some r) : Pu Tryz.prog 86 [.list 1 (p0x0.map I)] (I r) := by
  unfold cmp_Or_int at h
  refine ACall.bodyN Tryz.func86 rfl Tryz.ntmps86 Tryz.results86 rfl rfl ?_
  refine tSR <| rA rfl rfl <| rN <| tSR <| rA rfl rfl <| rN <| tS <| tSR <| rM rfl rfl <| ARun.qv (t_len rfl) rfl <| rM rfl rfl <| rN <| ATodo.block <| ATodo.loopI (fun x : Int => cmp_Or_int_b1 p0x0 x) (fun x σ' => σ' = ⟨18, [(3, I (0 : Int)), (6, .list 1 (p0x0.map I)), (7, I (p0x0.length : Int)), (8, I x)], []⟩) h ?_ ?_
  · exact ImpX.lq [] rfl rfl rfl
  · intro n2 z1 σ' J1 hmk h hJ1 hA1
    obtain rfl := hmk
    replace h : cmp_Or_int_b1 p0x0 n2 = some z1 := h
    unfold cmp_Or_int_b1 at h
    refine tSR <| ARun.qv (q_lss rfl rfl) rfl <| rN <| tS <| ATodo.cond_d rfl (fun hc => ?_) (fun hc => ?_)
    · refine have h := iteT hc h; tK <| tS <| ATodo.block <| tSR <| bndE h fun v3 e1 h => ARun.qv (t_index rfl rfl rfl e1 rfl rfl) rfl <| ARun.qv (q_load_rptr rfl rfl rfl) rfl <| rA rfl rfl <| rN <| tSR <| rM rfl rfl <| rM rfl rfl <| ARun.qv (q_neq rfl rfl) rfl <| rN <| ATodo.cond_d rfl (fun hc => ?_) (fun hc => ?_)
      · refine have h := iteT hc h; tSR <| rM rfl rfl <| rA rfl rfl <| rN <| ATodo.ret <| have h := outL h hA1; ?_
        obtain rfl := Option.some.inj h
        exact ImpX.here ⟨_, .cons (.tmp _ _ rfl) .nil, rfl⟩
      · refine have h := iteF hc h; tK <| ATodo.blk <| tR <| ARun.qv (q_addw rfl rfl) rfl <| rM rfl rfl <| rN <| ATodo.stop <| ?_
        obtain rfl := Option.some.inj h
        exact hJ1 _ _ rfl <| ImpX.lq [] rfl rfl rfl
    · refine have h := iteF hc h; ATodo.exit rfl <| have h := outL h hA1; tSR <| rM rfl rfl <| rA rfl rfl <| rN <| ATodo.ret <| ?_
      obtain rfl := Option.some.inj h
      exact ImpX.here ⟨_, .cons (.tmp _ _ rfl) .nil, rfl⟩

set_option maxHeartbeats 4000000 in
theorem item_CompareVersions_c [GI : GTab] {p0x0 : Version} {p1x0 : Version} {r : Int} (h : item_CompareVersions p0x0 p1x0 = some r) : Pu Tryz.prog 245 [.agg [I p0x0.Major, I p0x0.Minor, I p0x0.Patch], .agg [I p1x0.Major, I p1x0.Minor, I p1x0.Patch]] (I r) := by
  unfold item_CompareVersions at h
  refine ACall.bodyN Tryz.func245 rfl Tryz.ntmps245 Tryz.results245 rfl rfl ?_
  refine tSR <| n_box rfl rfl rfl rfl fun b1 => n_box rfl rfl rfl rfl fun b2 => rA rfl rfl <| rN <| tS <| ATodo.regionM (id := 1) (A := [0, 1, 0, 4, 15, 0, 32, 0, 128, 511, 0, 1024, 0, 4096, 16383, 32767, 65535, 131071]) 18 mixed rfl (by kernel_rfl) (by kernel_rfl) <| AM.qv (n_field_ptr rfl rfl) rfl <| AM.qv (q_load_ptr rfl rfl .p1 rfl) rfl <| AM.qv (n_field_ptr rfl rfl) rfl <| AM.qv (q_load_ptr rfl rfl .p0 rfl) rfl <| AM.callp rfl (cmp_Compare_int_c rfl) (CoL.refl _) rfl <| AM.qv (n_field_ptr rfl rfl) rfl <| AM.qv (q_load_ptr rfl rfl .p1 rfl) rfl <| AM.qv (n_field_ptr rfl rfl) rfl <| AM.qv (q_load_ptr rfl rfl .p0 rfl) rfl <| AM.callp rfl (cmp_Compare_int_c rfl) (CoL.refl _) rfl <| AM.qv (n_field_ptr rfl rfl) rfl <| AM.qv (q_load_ptr rfl rfl .p1 rfl) rfl <| AM.qv (n_field_ptr rfl rfl) rfl <| AM.qv (q_load_ptr rfl rfl .p0 rfl) rfl <| AM.callp rfl (cmp_Compare_int_c rfl) (CoL.refl _) rfl <| AM.buildSliceL (xs := ([(cmp_Compare_int p0x0.Major p1x0.Major), (cmp_Compare_int p0x0.Minor p1x0.Minor), (cmp_Compare_int p0x0.Patch p1x0.Patch)] : List Int).map I) rfl rfl rfl rfl rfl rfl <| bndE h fun v3 e1 h => AM.callp rfl (cmp_Or_int_c e1) (CoL.refl _) rfl <| AM.qv (q_assign rfl) rfl <| AM.nil <| rN <| ATodo.ret <| ?_
  obtain rfl := Option.some.inj h
  exact ImpX.here ⟨_, .cons (.tmp _ _ rfl) .nil, rfl⟩

set_option maxHeartbeats 4000000 in
theorem item_compared_c [GI : GTab] {p0x0 : Query} {p1x0 : Item_Held} {r : Bool} (h : item_compared p0x0 p1x0 = some r) : Pu Tryz.prog 214 [.agg [I p0x0.Kind, .str p0x0.Field, .str p0x0.Op, I p0x0.Value.Kind, .bool p0x0.Value.Flag, I p0x0.Value.Number, .str p0x0.Value.Words, I p0x0.Version.Major, I p0x0.Version.Minor, I p0x0.Version.Patch, .list 11 (p0x0.Kids.map Query.av)], .agg [.bool p1x0.Is, I p1x0.Value.Kind, .bool p1x0.Value.Flag, I p1x0.Value.Number, .str p1x0.Value.Words, I p1x0.Version.Major, I p1x0.Version.Minor, I p1x0.Version.Patch]] (.bool r) := by
  unfold item_compared at h
  refine ACall.bodyN Tryz.func214 rfl Tryz.ntmps214 Tryz.results214 rfl rfl ?_
  refine tSR <| n_box rfl rfl rfl rfl fun b1 => n_box rfl rfl rfl rfl fun b2 => rA rfl rfl <| rN <| tS <| tS <| ATodo.cut (fun σ' => ∃ (c3 : Bool), item_compared_j1 p0x0 p1x0 c3 = some r ∧ σ' = ⟨69, [(2, .ptr b1 0), (3, .ptr b2 0), (17, .bool c3)], [(b1, .cells [I p0x0.Kind, .str p0x0.Field, .str p0x0.Op, I p0x0.Value.Kind, .bool p0x0.Value.Flag, I p0x0.Value.Number, .str p0x0.Value.Words, I p0x0.Version.Major, I p0x0.Version.Minor, I p0x0.Version.Patch, .list 11 (p0x0.Kids.map Query.av)]), (b2, .cells [.bool p1x0.Is, I p1x0.Value.Kind, .bool p1x0.Value.Flag, I p1x0.Value.Number, .str p1x0.Value.Words, I p1x0.Version.Major, I p1x0.Version.Minor, I p1x0.Version.Patch])]⟩) ?_ ?_
  · refine tR <| rF rfl rfl rfl <| rL rfl rfl .p0 rfl rfl <| ARun.qv (q_not rfl) rfl <| rM rfl rfl <| ARun.guard rfl rfl rfl (fun hc => ?_) (fun hc => ?_)
    · rw [orFb hc] at h
      exact rF rfl rfl rfl <| rY rfl rfl rfl <| rF rfl rfl rfl <| rY rfl rfl rfl <| rL rfl rfl .p0 rfl rfl <| rY rfl rfl rfl <| rF rfl rfl rfl <| rY rfl rfl rfl <| rF rfl rfl rfl <| rY rfl rfl rfl <| rL rfl rfl .p1 rfl rfl <| rY rfl rfl rfl <| ARun.qv (q_neq rfl rfl) rfl <| rE rfl rfl rfl <| rN <| ATodo.stop <| ImpX.lq [1, 0] ⟨decide (p1x0.Value.Kind ≠ p0x0.Value.Kind), h, rfl⟩ rfl rfl
    · rw [orTb hc] at h
      exact rG rfl rfl rfl rfl <| rG rfl rfl rfl rfl <| rG rfl rfl rfl rfl <| rG rfl rfl rfl rfl <| rG rfl rfl rfl rfl <| rG rfl rfl rfl rfl <| rT rfl rfl rfl <| rN <| ATodo.stop <| ImpX.lq [1, 0] ⟨true, h, rfl⟩ rfl rfl
  · rintro σ' ⟨c3, h, rfl⟩
    unfold item_compared_j1 at h
    refine ATodo.cond rfl (fun hc => ?_) (fun hc => ?_)
    · refine have h := iteT hc h; tSR <| rA rfl rfl <| rN <| ATodo.ret <| ?_
      obtain rfl := Option.some.inj h
      exact ImpX.here ⟨_, .cons (.tmp _ _ rfl) .nil, rfl⟩
    · refine have h := iteFb hc h; tK <| tSR <| rA rfl rfl <| rN <| tS <| ATodo.block <| tSR <| rF rfl rfl rfl <| rL rfl rfl .p0 rfl rfl <| ARun.qv (q_seq rfl rfl) rfl <| rA rfl rfl <| rN <| ATodo.cut (fun σ' => ∃ (n4 : Int), item_compared_j2 p0x0 n4 = some r ∧ σ' = ⟨69, [(2, .ptr b1 0), (5, I n4)], [(b1, .cells [I p0x0.Kind, .str p0x0.Field, .str p0x0.Op, I p0x0.Value.Kind, .bool p0x0.Value.Flag, I p0x0.Value.Number, .str p0x0.Value.Words, I p0x0.Version.Major, I p0x0.Version.Minor, I p0x0.Version.Patch, .list 11 (p0x0.Kids.map Query.av)])]⟩) ?_ ?_
      · refine ATodo.cond_d rfl (fun hc => ?_) (fun hc => ?_)
        · exact have h := iteT hc h; tR <| rF rfl rfl rfl <| ARun.qv (n_load_ptr_part rfl rfl .p1 rfl rfl) rfl <| rF rfl rfl rfl <| ARun.qv (n_load_ptr_part rfl rfl .p0 rfl rfl) rfl <| bndE h fun v5 e1 h => r_callp rfl (item_CompareVersions_c e1) (CoL.refl _) rfl <| rA rfl rfl <| rN <| ATodo.stop <| ImpX.lq [0] ⟨v5, h, rfl⟩ rfl rfl
        · refine have h := iteF hc h; tSR <| rF rfl rfl rfl <| rF rfl rfl rfl <| rL rfl rfl .p1 rfl rfl <| ARun.qv (q_eql rfl rfl) rfl <| rA rfl rfl <| rN <| ATodo.cut (fun σ' => ∃ (n6 : Int), item_compared_j3 p0x0 n6 = some r ∧ σ' = ⟨69, [(2, .ptr b1 0), (5, I n6)], [(b1, .cells [I p0x0.Kind, .str p0x0.Field, .str p0x0.Op, I p0x0.Value.Kind, .bool p0x0.Value.Flag, I p0x0.Value.Number, .str p0x0.Value.Words, I p0x0.Version.Major, I p0x0.Version.Minor, I p0x0.Version.Patch, .list 11 (p0x0.Kids.map Query.av)])]⟩) ?_ ?_
          · refine ATodo.cond_d rfl (fun hc => ?_) (fun hc => ?_)
            · exact have h := iteT hc h; tR <| rF rfl rfl rfl <| rF rfl rfl rfl <| rL rfl rfl .p1 rfl rfl <| rF rfl rfl rfl <| rF rfl rfl rfl <| rL rfl rfl .p0 rfl rfl <| r_callp rfl (cmp_Compare_int_c rfl) (CoL.refl _) rfl <| rA rfl rfl <| rN <| ATodo.stop <| ImpX.lq [0] ⟨(cmp_Compare_int p1x0.Value.Number p0x0.Value.Number), h, rfl⟩ rfl rfl
            · refine have h := iteF hc h; tSR <| rF rfl rfl rfl <| ARun.qv (n_load_ptr_part rfl rfl .p1 rfl rfl) rfl <| rF rfl rfl rfl <| ARun.qv (n_load_ptr_part rfl rfl .p0 rfl rfl) rfl <| ARun.qv (t_tne (g := ValueS.av) (X := p1x0.Value) (Y := p0x0.Value) rfl rfl rfl rfl rfl) rfl <| rA rfl rfl <| rN <| ATodo.cut (fun σ' => ∃ (n7 : Int), item_compared_j4 p0x0 n7 = some r ∧ σ' = ⟨69, [(2, .ptr b1 0), (5, I n7)], [(b1, .cells [I p0x0.Kind, .str p0x0.Field, .str p0x0.Op, I p0x0.Value.Kind, .bool p0x0.Value.Flag, I p0x0.Value.Number, .str p0x0.Value.Words, I p0x0.Version.Major, I p0x0.Version.Minor, I p0x0.Version.Patch, .list 11 (p0x0.Kids.map Query.av)])]⟩) ?_ ?_
              · refine ATodo.cond_d rfl (fun hc => ?_) (fun hc => ?_)
                · exact have h := iteT hc h; tR <| rA rfl rfl <| rN <| ATodo.stop <| ImpX.lq [0] ⟨(1 : Int), h, rfl⟩ rfl rfl
                · exact have h := iteF hc h; tK <| ATodo.stop <| ImpX.lq [0] ⟨(0 : Int), h, rfl⟩ rfl rfl
              · rintro σ' ⟨n7, h, rfl⟩
                unfold item_compared_j4 at h
                exact ATodo.stop <| ImpX.lq [0] ⟨n7, h, rfl⟩ rfl rfl
          · rintro σ' ⟨n6, h, rfl⟩
            unfold item_compared_j3 at h
            exact ATodo.stop <| ImpX.lq [0] ⟨n6, h, rfl⟩ rfl rfl
      · rintro σ' ⟨n4, h, rfl⟩
        unfold item_compared_j2 at h
        refine ATodo.blk <| tS <| tSR <| rF rfl rfl rfl <| rL rfl rfl .p0 rfl rfl <| rN <| ATodo.block <| tSR <| ARun.qv (q_seq rfl rfl) rfl <| rA rfl rfl <| rN <| ATodo.cond_d rfl (fun hc => ?_) (fun hc => ?_)
        · refine have h := iteT hc h; tSR <| rM rfl rfl <| ARun.qv (q_eql rfl rfl) rfl <| rA rfl rfl <| rN <| ATodo.ret <| ?_
          obtain rfl := Option.some.inj h
          exact ImpX.here ⟨_, .cons (.tmp _ _ rfl) .nil, rfl⟩
        · refine have h := iteF hc h; tSR <| ARun.qv (q_seq rfl rfl) rfl <| rA rfl rfl <| rN <| ATodo.cond_d rfl (fun hc => ?_) (fun hc => ?_)
          · refine have h := iteT hc h; tSR <| rM rfl rfl <| ARun.qv (q_neq rfl rfl) rfl <| rA rfl rfl <| rN <| ATodo.ret <| ?_
            obtain rfl := Option.some.inj h
            exact ImpX.here ⟨_, .cons (.tmp _ _ rfl) .nil, rfl⟩
          · refine have h := iteF hc h; tSR <| ARun.qv (q_seq rfl rfl) rfl <| rA rfl rfl <| rN <| ATodo.cond_d rfl (fun hc => ?_) (fun hc => ?_)
            · refine have h := iteT hc h; tSR <| rM rfl rfl <| ARun.qv (q_lss rfl rfl) rfl <| rA rfl rfl <| rN <| ATodo.ret <| ?_
              obtain rfl := Option.some.inj h
              exact ImpX.here ⟨_, .cons (.tmp _ _ rfl) .nil, rfl⟩
            · refine have h := iteF hc h; tSR <| ARun.qv (q_seq rfl rfl) rfl <| rA rfl rfl <| rN <| ATodo.cond_d rfl (fun hc => ?_) (fun hc => ?_)
              · refine have h := iteT hc h; tSR <| rM rfl rfl <| ARun.qv (q_leq rfl rfl) rfl <| rA rfl rfl <| rN <| ATodo.ret <| ?_
                obtain rfl := Option.some.inj h
                exact ImpX.here ⟨_, .cons (.tmp _ _ rfl) .nil, rfl⟩
              · refine have h := iteF hc h; tSR <| ARun.qv (q_seq rfl rfl) rfl <| rA rfl rfl <| rN <| ATodo.cond_d rfl (fun hc => ?_) (fun hc => ?_)
                · refine have h := iteT hc h; tSR <| rM rfl rfl <| ARun.qv (q_gtr rfl rfl) rfl <| rA rfl rfl <| rN <| ATodo.ret <| ?_
                  obtain rfl := Option.some.inj h
                  exact ImpX.here ⟨_, .cons (.tmp _ _ rfl) .nil, rfl⟩
                · refine have h := iteF hc h; tK <| ATodo.blk <| tSR <| rM rfl rfl <| ARun.qv (q_geq rfl rfl) rfl <| rA rfl rfl <| rN <| ATodo.ret <| ?_
                  obtain rfl := Option.some.inj h
                  exact ImpX.here ⟨_, .cons (.tmp _ _ rfl) .nil, rfl⟩

set_option maxHeartbeats 4000000 in
theorem item_Answers_bd_c [GI : GTab] {self : Query → (Str → Option Item_Held) → Option Bool} (self_h : ∀ {p0x0 : Query} {fnb : Str → Option Item_Held} {fnb_F : FuncId} [IsFn Tryz.prog fnb_F] {fnb_C : List AV} (fnb_h : ∀ {y0 : _} {u : Item_Held}, fnb y0 = some u → Pu Tryz.prog fnb_F (.str y0 ::  fnb_C) (.agg [.bool u.Is, I u.Value.Kind, .bool u.Value.Flag, I u.Value.Number, .str u.Value.Words, I u.Version.Major, I u.Version.Minor, I u.Version.Patch])) {r : Bool}, self p0x0 fnb = some r → Pu Tryz.prog 176 [.agg [I p0x0.Kind, .str p0x0.Field, .str p0x0.Op, I p0x0.Value.Kind, .bool p0x0.Value.Flag, I p0x0.Value.Number, .str p0x0.Value.Words, I p0x0.Version.Major, I p0x0.Version.Minor, I p0x0.Version.Patch, .list 11 (p0x0.Kids.map Query.av)], .func (.func fnb_F) fnb_C] (.bool r)) {p0x0 : Query} {fnb : Str → Option Item_Held} {fnb_F : FuncId} [IsFn Tryz.prog fnb_F] {fnb_C : List AV} (fnb_h : ∀ {y0 : _} {u : Item_Held}, fnb y0 = some u → Pu Tryz.prog fnb_F (.str y0 ::  fnb_C) (.agg [.bool u.Is, I u.Value.Kind, .bool u.Value.Flag, I u.Value.Number, .str u.Value.Words, I u.Version.Major, I u.Version.Minor, I u.Version.Patch])) {r : Bool} (h : item_Answers_bd self p0x0 fnb = some r) : Pu Tryz.prog 176 [.agg [I p0x0.Kind, .str p0x0.Field, .str p0x0.Op, I p0x0.Value.Kind, .bool p0x0.Value.Flag, I p0x0.Value.Number, .str p0x0.Value.Words, I p0x0.Version.Major, I p0x0.Version.Minor, I p0x0.Version.Patch, .list 11 (p0x0.Kids.map Query.av)], .func (.func fnb_F) fnb_C] (.bool r) := by
  unfold item_Answers_bd at h
  refine ACall.bodyN Tryz.func176 rfl Tryz.ntmps176 Tryz.results176 rfl rfl ?_
  refine tSR <| n_box rfl rfl rfl rfl fun b1 => rA rfl rfl <| rN <| tS <| tSR <| rF rfl rfl rfl <| rL rfl rfl .p0 rfl rfl <| rN <| ATodo.block <| tSR <| ARun.qv (q_eql rfl rfl) rfl <| rA rfl rfl <| rN <| ATodo.cond_d rfl (fun hc => ?_) (fun hc => ?_)
  · refine have h := iteT hc h; tS <| ATodo.regionM (id := 3) (A := [0, 0, 0, 4, 14, 31, 63]) 7 mixed rfl (by kernel_rfl) (by kernel_rfl) <| AM.qv (q_load_ptr_all rfl rfl .p0 rfl) rfl <| AM.qv (q_move rfl) rfl <| AM.qv (n_field_ptr rfl rfl) rfl <| AM.qv (q_load_ptr rfl rfl .p0 rfl) rfl <| bndE h fun v2 e1 h => AM.callvp rfl rfl (fnb_h e1) (CoL.refl _) rfl <| bndE h fun v3 e2 h => AM.callp rfl (item_compared_c e2) (CoL.refl _) rfl <| AM.qv (q_assign rfl) rfl <| AM.nil <| rN <| ATodo.ret <| ?_
    obtain rfl := Option.some.inj h
    exact ImpX.here ⟨_, .cons (.tmp _ _ rfl) .nil, rfl⟩
  · refine have h := iteF hc h; tSR <| ARun.qv (q_eql rfl rfl) rfl <| rA rfl rfl <| rN <| ATodo.cond_d rfl (fun hc => ?_) (fun hc => ?_)
    · refine have h := iteT hc h; tSR <| rM rfl rfl <| rF rfl rfl rfl <| rL rfl rfl .p0 rfl rfl <| bndE h fun v4 e3 h => r_callvp rfl rfl (fnb_h e3) (CoL.refl _) rfl <| ARun.qv (q_fieldv1 (ft := 4) (off := 0) ⟨_, _, Tryz.underlying218, rfl, rfl, rfl⟩ rfl rfl rfl) rfl <| rA rfl rfl <| rN <| ATodo.ret <| ?_
      obtain rfl := Option.some.inj h
      exact ImpX.here ⟨_, .cons (.tmp _ _ rfl) .nil, rfl⟩
    · refine have h := iteF hc h; tSR <| ARun.qv (q_eql rfl rfl) rfl <| rA rfl rfl <| rN <| ATodo.cond_d rfl (fun hc => ?_) (fun hc => ?_)
      · refine have h := iteT hc h; tSR <| rF rfl rfl rfl <| rL rfl rfl .p0 rfl rfl <| bndE h fun v5 e4 h => ARun.qv (t_index rfl rfl rfl e4 rfl (by rw [Query.av_eq]; rfl)) rfl <| ARun.qv (q_load_rptr_agg rfl rfl rfl) rfl <| rM rfl rfl <| bndE h fun v6 e5 h => r_callpB rfl (self_h fnb_h e5) (.cons (.co (.refl _)) (.cons (.co (.refl _)) .nil)) rfl rfl <| ARun.qv (q_not rfl) rfl <| rA rfl rfl <| rN <| ATodo.ret <| ?_
        obtain rfl := Option.some.inj h
        exact ImpX.here ⟨_, .cons (.tmp _ _ rfl) .nil, rfl⟩
      · refine have h := iteF hc h; tK <| ATodo.blk <| tSR <| rF rfl rfl rfl <| rL rfl rfl .p0 rfl rfl <| ARun.qv (q_eql rfl rfl) rfl <| rA rfl rfl <| rN <| tS <| tSR <| rF rfl rfl rfl <| rL rfl rfl .p0 rfl rfl <| ARun.qv (t_len rfl) rfl <| rM rfl rfl <| rN <| ATodo.block <| ATodo.loopI (fun x : Int => item_Answers_b1 self p0x0 fnb x) (fun x σ' => σ' = ⟨53, [(1, .func (.func fnb_F) fnb_C), (5, .bool (decide (p0x0.Kind = (4 : Int)))), (38, .list 11 (p0x0.Kids.map Query.av)), (39, I (p0x0.Kids.length : Int)), (40, I x)], []⟩) h ?_ ?_
        · exact ImpX.lq [] rfl rfl rfl
        · intro n8 z1 σ' J1 hmk h hJ1 hA1
          obtain rfl := hmk
          replace h : item_Answers_b1 self p0x0 fnb n8 = some z1 := h
          unfold item_Answers_b1 at h
          refine tSR <| ARun.qv (q_lss rfl rfl) rfl <| rN <| tS <| ATodo.cond_d rfl (fun hc => ?_) (fun hc => ?_)
          · refine have h := iteT hc h; tK <| tS <| ATodo.block <| tSR <| bndE h fun v9 e6 h => ARun.qv (t_index rfl rfl rfl e6 rfl (by rw [Query.av_eq]; rfl)) rfl <| ARun.qv (q_load_rptr_agg rfl rfl rfl) rfl <| n_alloc rfl rfl rfl rfl fun b10 => n_store_ptr rfl rfl rfl rfl .p0 rfl rfl <| rN <| tSR <| ARun.qv (q_load_ptr_all rfl rfl .p0 rfl) rfl <| rM rfl rfl <| bndE h fun v11 e7 h => r_callpB rfl (self_h fnb_h e7) (.cons (.co (.refl _)) (.cons (.co (.refl _)) .nil)) rfl rfl <| rM rfl rfl <| ARun.qv (q_bne rfl rfl) rfl <| rN <| ATodo.cond rfl (fun hc => ?_) (fun hc => ?_)
            · refine have h := iteT hc h; tSR <| rM rfl rfl <| ARun.qv (q_not_d rfl) rfl <| rA rfl rfl <| rN <| ATodo.ret <| have h := outL h hA1; ?_
              obtain rfl := Option.some.inj h
              exact ImpX.here ⟨_, .cons (.tmp _ _ rfl) .nil, rfl⟩
            · refine have h := iteFb hc h; tK <| ATodo.blk <| tR <| ARun.qv (q_addw rfl rfl) rfl <| rM rfl rfl <| rN <| ATodo.stop <| ?_
              obtain rfl := Option.some.inj h
              exact hJ1 _ _ rfl <| ImpX.lq [] rfl rfl rfl
          · refine have h := iteF hc h; ATodo.exit rfl <| have h := outL h hA1; tSR <| rM rfl rfl <| rA rfl rfl <| rN <| ATodo.ret <| ?_
            obtain rfl := Option.some.inj h
            exact ImpX.here ⟨_, .cons (.tmp _ _ rfl) .nil, rfl⟩
theorem item_Answers_r_c [GI : GTab] : ∀ (k : Nat) {p0x0 : Query} {fnb : Str → Option Item_Held} {fnb_F : FuncId} [IsFn Tryz.prog fnb_F] {fnb_C : List AV} (fnb_h : ∀ {y0 : _} {u : Item_Held}, fnb y0 = some u → Pu Tryz.prog fnb_F (.str y0 ::  fnb_C) (.agg [.bool u.Is, I u.Value.Kind, .bool u.Value.Flag, I u.Value.Number, .str u.Value.Words, I u.Version.Major, I u.Version.Minor, I u.Version.Patch])) {r : Bool}, item_Answers_r k p0x0 fnb = some r → Pu Tryz.prog 176 [.agg [I p0x0.Kind, .str p0x0.Field, .str p0x0.Op, I p0x0.Value.Kind, .bool p0x0.Value.Flag, I p0x0.Value.Number, .str p0x0.Value.Words, I p0x0.Version.Major, I p0x0.Version.Minor, I p0x0.Version.Patch, .list 11 (p0x0.Kids.map Query.av)], .func (.func fnb_F) fnb_C] (.bool r) := by
  intro k
  induction k with
  | zero => intro p0x0 fnb fnb_F _ fnb_C fnb_h r h; cases h
  | succ k ih => intro p0x0 fnb fnb_F _ fnb_C fnb_h r h; exact item_Answers_bd_c ih fnb_h h
theorem item_Answers_c [GI : GTab] {p0x0 : Query} {fnb : Str → Option Item_Held} {fnb_F : FuncId} [IsFn Tryz.prog fnb_F] {fnb_C : List AV} (fnb_h : ∀ {y0 : _} {u : Item_Held}, fnb y0 = some u → Pu Tryz.prog fnb_F (.str y0 ::  fnb_C) (.agg [.bool u.Is, I u.Value.Kind, .bool u.Value.Flag, I u.Value.Number, .str u.Value.Words, I u.Version.Major, I u.Version.Minor, I u.Version.Patch])) {r : Bool} (h : item_Answers p0x0 fnb = some r) : Pu Tryz.prog 176 [.agg [I p0x0.Kind, .str p0x0.Field, .str p0x0.Op, I p0x0.Value.Kind, .bool p0x0.Value.Flag, I p0x0.Value.Number, .str p0x0.Value.Words, I p0x0.Version.Major, I p0x0.Version.Minor, I p0x0.Version.Patch, .list 11 (p0x0.Kids.map Query.av)], .func (.func fnb_F) fnb_C] (.bool r) := item_Answers_r_c depth fnb_h h

set_option maxHeartbeats 4000000 in
theorem item_Matches_c [GI : GTab] {p0x0 : Query} {p1x0 : ItemS} {r : Bool} (h : item_Matches p0x0 p1x0 = some r) : Pu Tryz.prog 118 [.agg [I p0x0.Kind, .str p0x0.Field, .str p0x0.Op, I p0x0.Value.Kind, .bool p0x0.Value.Flag, I p0x0.Value.Number, .str p0x0.Value.Words, I p0x0.Version.Major, I p0x0.Version.Minor, I p0x0.Version.Patch, .list 11 (p0x0.Kids.map Query.av)], .agg [.str p1x0.Device.Key, .str p1x0.Device.Model, .str p1x0.Device.Tenant, I p1x0.Device.Firmware.Major, I p1x0.Device.Firmware.Minor, I p1x0.Device.Firmware.Patch, .list 2 (p1x0.Device.Tags.map Pair.av), .list 5 (p1x0.Props.map PropS.av)]] (.bool r) := by
  unfold item_Matches at h
  refine ACall.bodyN Tryz.func118 rfl Tryz.ntmps118 Tryz.results118 rfl rfl ?_
  refine tSR <| n_box rfl rfl rfl rfl fun b1 => n_box rfl rfl rfl rfl fun b2 => rA rfl rfl <| rN <| tSR <| ARun.qv (q_load_ptr_all rfl rfl .p1 rfl) rfl <| ARun.qv (q_makeFunc rfl) rfl <| bndE h fun v3 e1 h => r_callpB rfl (item_Answers_c (fun e => item_Matches_1x_c e) e1) (.cons (.co (.refl _)) (.cons (.funcL _ _ _ (.cons (.boxL _ _ _ .p0 (.cons (.co (.refl _)) (.cons (.co (.refl _)) (.cons (.co (.refl _)) (.cons (.co (.refl _)) (.cons (.co (.refl _)) (.cons (.co (.refl _)) (.cons (.co (.refl _)) (.cons (.co (.refl _)) .nil))))))))) .nil)) .nil)) rfl rfl <| rA rfl rfl <| rN <| ATodo.ret <| ?_
  obtain rfl := Option.some.inj h
  exact ImpX.here ⟨_, .cons (.tmp _ _ rfl) .nil, rfl⟩

set_option maxHeartbeats 4000000 in
theorem device_Matches_c {p0x0 : Query} {p1x0 : ItemS} {r : Bool × Int} (h : device_Matches p0x0 p1x0 = some r) : Pu Tryz.prog 46 [.agg [I p0x0.Kind, .str p0x0.Field, .str p0x0.Op, I p0x0.Value.Kind, .bool p0x0.Value.Flag, I p0x0.Value.Number, .str p0x0.Value.Words, I p0x0.Version.Major, I p0x0.Version.Minor, I p0x0.Version.Patch, .list 11 (p0x0.Kids.map Query.av)], .agg [.str p1x0.Device.Key, .str p1x0.Device.Model, .str p1x0.Device.Tenant, I p1x0.Device.Firmware.Major, I p1x0.Device.Firmware.Minor, I p1x0.Device.Firmware.Patch, .list 2 (p1x0.Device.Tags.map Pair.av), .list 5 (p1x0.Props.map PropS.av)]] (.tup [.bool r.1, I r.2]) := by
  unfold device_Matches at h
  refine ACall.bodyN Tryz.func46 rfl Tryz.ntmps46 Tryz.results46 rfl rfl ?_
  refine tSR <| n_box rfl rfl rfl rfl fun b1 => n_box rfl rfl rfl rfl fun b2 => rA rfl rfl <| rA rfl rfl <| rN <| tS <| tS <| ATodo.regionM (id := 1) (A := [0, 1, 0, 7, 15, 31, 63]) 7 mixed rfl (by kernel_rfl) (by kernel_rfl) <| AM.qv (q_load_ptr_all rfl rfl .p1 rfl) rfl <| bndE h fun v3 e1 h => AM.callp rfl (device_CheckQuery_c e1) (CoL.refl _) rfl <| AM.qv (q_load_ptr_all rfl rfl .p0 rfl) rfl <| bndE h fun v4 e2 h => AM.callp rfl (item_Fault_c e2) (CoL.refl _) rfl <| AM.buildSliceL (xs := ([v3, v4] : List Int).map I) rfl rfl rfl rfl rfl rfl <| bndE h fun v5 e3 h => AM.callp rfl (base_First_c e3) (CoL.refl _) rfl <| AM.qv (q_assign rfl) rfl <| AM.nil <| rN <| tSR <| rM rfl rfl <| ARun.qv (q_neq rfl rfl) rfl <| rN <| ATodo.cond_d rfl (fun hc => ?_) (fun hc => ?_)
  · refine have h := iteT hc h; tSR <| rM rfl rfl <| rA rfl rfl <| rA rfl rfl <| rN <| ATodo.ret <| ?_
    obtain rfl := Option.some.inj h
    exact ImpX.here ⟨_, .cons (.tmp _ _ rfl) (.cons (.tmp _ _ rfl) .nil), rfl⟩
  · refine have h := iteF hc h; tK <| tSR <| ARun.qv (q_load_ptr_all rfl rfl .p1 rfl) rfl <| ARun.qv (q_load_ptr_all rfl rfl .p0 rfl) rfl <| bndE h fun v6 e4 h => r_callp rfl (item_Matches_c e4) (CoL.refl _) rfl <| rA rfl rfl <| rA rfl rfl <| rN <| ATodo.ret <| ?_
    obtain rfl := Option.some.inj h
    exact ImpX.here ⟨_, .cons (.tmp _ _ rfl) (.cons (.tmp _ _ rfl) .nil), rfl⟩

set_option maxHeartbeats 4000000 in
theorem item_ListFault_c {p0x0 : List ItemS} {r : Int} (h : item_ListFault p0x0 = some r) : Pu Tryz.prog 119 [.list 8 (p0x0.map ItemS.av)] (I r) := by
  unfold item_ListFault at h
  refine ACall.bodyN Tryz.func119 rfl Tryz.ntmps119 Tryz.results119 rfl rfl ?_
  refine tSR <| rA rfl rfl <| rN <| tS <| tSR <| rM rfl rfl <| ARun.qv (t_len rfl) rfl <| ARun.qv (q_gtr rfl rfl) rfl <| rN <| ATodo.cond_d rfl (fun hc => ?_) (fun hc => ?_)
  · refine have h := iteT hc h; tSR <| rA rfl rfl <| rN <| ATodo.ret <| ?_
    obtain rfl := Option.some.inj h
    exact ImpX.here ⟨_, .cons (.tmp _ _ rfl) .nil, rfl⟩
  · refine have h := iteF hc h; tK <| tS <| tSR <| rM rfl rfl <| ARun.qv (t_len rfl) rfl <| rM rfl rfl <| rN <| ATodo.block <| ATodo.loopI (fun x : Int => item_ListFault_b1 p0x0 x) (fun x σ' => σ' = ⟨37, [(0, .list 8 (p0x0.map ItemS.av)), (9, .list 8 (p0x0.map ItemS.av)), (10, I (p0x0.length : Int)), (11, I x)], []⟩) h ?_ ?_
    · exact ImpX.lq [] rfl rfl rfl
    · intro n2 z1 σ' J1 hmk h hJ1 hA1
      obtain rfl := hmk
      replace h : item_ListFault_b1 p0x0 n2 = some z1 := h
      unfold item_ListFault_b1 at h
      refine tSR <| ARun.qv (q_lss rfl rfl) rfl <| rN <| tS <| ATodo.cond_d rfl (fun hc => ?_) (fun hc => ?_)
      · refine have h := iteT hc h; tK <| tS <| ATodo.block <| tSR <| rM rfl rfl <| bndE h fun v3 e1 h => ARun.qv (t_index rfl rfl rfl e1 rfl rfl) rfl <| ARun.qv (q_load_rptr_agg rfl rfl rfl) rfl <| n_alloc rfl rfl rfl rfl fun b4 => rA rfl rfl <| n_store_ptr rfl rfl rfl rfl .p0 rfl rfl <| rN <| tS <| tSR <| ARun.qv (q_load_ptr_all rfl rfl .p0 rfl) rfl <| bndE h fun v5 e2 h => r_callp rfl (item_Fault_c e2) (CoL.refl _) rfl <| rA rfl rfl <| rN <| tSR <| rM rfl rfl <| ARun.qv (q_neq rfl rfl) rfl <| rN <| ATodo.cond_d rfl (fun hc => ?_) (fun hc => ?_)
        · refine have h := iteT hc h; tSR <| rM rfl rfl <| rA rfl rfl <| rN <| ATodo.ret <| have h := outL h hA1; ?_
          obtain rfl := Option.some.inj h
          exact ImpX.here ⟨_, .cons (.tmp _ _ rfl) .nil, rfl⟩
        · refine have h := iteF hc h; tK <| tS <| ATodo.cut (fun σ' => ∃ (c6 : Bool), item_ListFault_j1 n2 c6 = some z1 ∧ σ' = ⟨37, [(0, .list 8 (p0x0.map ItemS.av)), (9, .list 8 (p0x0.map ItemS.av)), (10, I (p0x0.length : Int)), (11, I n2), (35, .bool c6)], []⟩) ?_ ?_
          · refine ATodo.regionM (id := 9) (A := [0, 1, 3, 7, 15, 31, 7, 7, 135, 455, 967, 1991, 4039, 8191, 16383]) 15 mixed rfl (by kernel_rfl) (by kernel_rfl) <| AM.qv (q_move rfl) rfl <| AM.qv (q_gtr rfl rfl) rfl <| AM.qv (q_move rfl) rfl <| AM.guard_dt rfl rfl rfl (fun hc => ?_) (fun hc => ?_)
            · exact have h := iteT hc h; AM.qv (n_field_ptr rfl rfl) rfl <| AM.guard_yes rfl rfl rfl <| AM.qv (n_field_ptr rfl rfl) rfl <| AM.guard_yes rfl rfl rfl <| AM.qv (q_load_ptr rfl rfl .p0 rfl) rfl <| AM.guard_yes rfl rfl rfl <| AM.qv (q_move rfl) rfl <| AM.guard_yes rfl rfl rfl <| AM.qv (q_move rfl) rfl <| AM.guard_yes rfl rfl rfl <| AM.qv (q_subw rfl rfl) rfl <| AM.guard_yes rfl rfl rfl <| bndE h fun v7 e3 h => AM.qv (t_index rfl rfl rfl e3 rfl rfl) rfl <| AM.guard_yes rfl rfl rfl <| AM.qv (n_field_rptr rfl rfl) rfl <| AM.guard_yes rfl rfl rfl <| AM.qv (n_field_rptr rfl rfl) rfl <| AM.guard_yes rfl rfl rfl <| AM.qv (q_load_rptr rfl rfl rfl) rfl <| AM.guard_yes rfl rfl rfl <| AM.qv (t_sleq rfl rfl) rfl <| AM.qv (q_pick_t rfl rfl) rfl <| AM.nil <| rN <| ATodo.stop <| ImpX.lq [] ⟨Op.bytesLess v3.Device.Key v7.Device.Key || v3.Device.Key == v7.Device.Key, h, rfl⟩ rfl rfl
            · exact have h := iteF hc h; AM.guard_no rfl rfl rfl rfl <| AM.guard_no rfl rfl rfl rfl <| AM.guard_no rfl rfl rfl rfl <| AM.guard_no rfl rfl rfl rfl <| AM.guard_no rfl rfl rfl rfl <| AM.guard_no rfl rfl rfl rfl <| AM.guard_no rfl rfl rfl rfl <| AM.guard_no rfl rfl rfl rfl <| AM.guard_no rfl rfl rfl rfl <| AM.guard_no rfl rfl rfl rfl <| AM.qv (q_pick_f rfl rfl) rfl <| AM.nil <| rN <| ATodo.stop <| ImpX.lq [] ⟨false, h, rfl⟩ rfl rfl
          · rintro σ' ⟨c6, h, rfl⟩
            unfold item_ListFault_j1 at h
            refine ATodo.cond rfl (fun hc => ?_) (fun hc => ?_)
            · refine have h := iteT hc h; tSR <| rA rfl rfl <| rN <| ATodo.ret <| have h := outL h hA1; ?_
              obtain rfl := Option.some.inj h
              exact ImpX.here ⟨_, .cons (.tmp _ _ rfl) .nil, rfl⟩
            · refine have h := iteFb hc h; tK <| ATodo.blk <| tR <| ARun.qv (q_addw rfl rfl) rfl <| rM rfl rfl <| rN <| ATodo.stop <| ?_
              obtain rfl := Option.some.inj h
              exact hJ1 _ _ rfl <| ImpX.lq [] rfl rfl rfl
      · refine have h := iteF hc h; ATodo.exit rfl <| have h := outL h hA1; tSR <| rA rfl rfl <| rN <| ATodo.ret <| ?_
        obtain rfl := Option.some.inj h
        exact ImpX.here ⟨_, .cons (.tmp _ _ rfl) .nil, rfl⟩

set_option maxHeartbeats 4000000 in
theorem device_Select_c {p0x0 : Query} {p1x0 : List ItemS} {r : (List Str) × Int} (h : device_Select p0x0 p1x0 = some r) : ACall Tryz.prog 47 [.agg [I p0x0.Kind, .str p0x0.Field, .str p0x0.Op, I p0x0.Value.Kind, .bool p0x0.Value.Flag, I p0x0.Value.Number, .str p0x0.Value.Words, I p0x0.Version.Major, I p0x0.Version.Minor, I p0x0.Version.Patch, .list 11 (p0x0.Kids.map Query.av)], .list 8 (p1x0.map ItemS.av)] [] (T1 (fun d_0 => [(d_0, .arr 1 (r.1.map AV.str))]) (fun d_0 => .tup [.sl 1 d_0 0 r.1.length, I r.2])) := by
  unfold device_Select at h
  refine ACall.lessH ?_
  refine ACall.bodyN Tryz.func47 rfl Tryz.ntmps47 Tryz.results47 rfl rfl ?_
  refine tSR <| n_box rfl rfl rfl rfl fun b1 => rA rfl rfl <| rA rfl rfl <| rN <| tS <| tSR <| ARun.qv (q_load_ptr_all rfl rfl .p0 rfl) rfl <| bndE h fun v2 e1 h => r_callp rfl (device_CheckQuery_c e1) (CoL.refl _) rfl <| rA rfl rfl <| rN <| tSR <| rM rfl rfl <| ARun.qv (q_neq rfl rfl) rfl <| rN <| ATodo.cond_d rfl (fun hc => ?_) (fun hc => ?_)
  · refine have h := iteT hc h; tSR <| rM rfl rfl <| rA rfl rfl <| rA rfl rfl <| rN <| ATodo.ret <| ?_
    obtain rfl := Option.some.inj h
    exact ImpX.arr (s := 4) 1 rfl fun b3 => ImpX.here ⟨_, .cons (.tmp _ _ rfl) (.cons (.tmp _ _ rfl) .nil), _, .cons .p0 .nil, ⟨b3, rfl, rfl⟩⟩
  · refine have h := iteF hc h; tK <| tS <| tSR <| rM rfl rfl <| bndE h fun v4 e2 h => r_callp rfl (item_ListFault_c e2) (CoL.refl _) rfl <| rA rfl rfl <| rN <| tSR <| rM rfl rfl <| ARun.qv (q_neq rfl rfl) rfl <| rN <| ATodo.cond_d rfl (fun hc => ?_) (fun hc => ?_)
    · refine have h := iteT hc h; tSR <| rM rfl rfl <| rA rfl rfl <| rA rfl rfl <| rN <| ATodo.ret <| ?_
      obtain rfl := Option.some.inj h
      exact ImpX.arr (s := 4) 1 rfl fun b5 => ImpX.here ⟨_, .cons (.tmp _ _ rfl) (.cons (.tmp _ _ rfl) .nil), _, .cons .p0 .nil, ⟨b5, rfl, rfl⟩⟩
    · refine have h := iteF hc h; tK <| tSR <| rA rfl rfl <| rN <| tS <| tSR <| rM rfl rfl <| ARun.qv (t_len rfl) rfl <| rM rfl rfl <| rN <| ATodo.block <| ATodo.loopI (fun x : (List Str) × Int => device_Select_b1 p0x0 p1x0 x.1 x.2) (fun x σ' => ∃ (b9 : Bk), σ' = ⟨38, [(2, .ptr b1 0), (8, .sl 1 b9 0 x.1.length), (21, .list 8 (p1x0.map ItemS.av)), (22, I (p1x0.length : Int)), (23, I x.2)], [(b1, .cells [I p0x0.Kind, .str p0x0.Field, .str p0x0.Op, I p0x0.Value.Kind, .bool p0x0.Value.Flag, I p0x0.Value.Number, .str p0x0.Value.Words, I p0x0.Version.Major, I p0x0.Version.Minor, I p0x0.Version.Patch, .list 11 (p0x0.Kids.map Query.av)]), (b9, .arr 1 (x.1.map AV.str))]⟩) h ?_ ?_
      · exact ImpX.arr (s := 8) 1 rfl fun b12 => ImpX.lq [1, 0] ⟨b12, rfl⟩ rfl rfl
      · intro x z1 σ' J1 hmk h hJ1 hA1
        obtain ⟨l10, n11⟩ := x
        obtain ⟨b9, rfl⟩ := hmk
        replace h : device_Select_b1 p0x0 p1x0 l10 n11 = some z1 := h
        unfold device_Select_b1 at h
        refine tSR <| ARun.qv (q_lss rfl rfl) rfl <| rN <| tS <| ATodo.cond_d rfl (fun hc => ?_) (fun hc => ?_)
        · refine have h := iteT hc h; tK <| tS <| ATodo.block <| tSR <| bndE h fun v13 e3 h => ARun.qv (t_index rfl rfl rfl e3 rfl rfl) rfl <| ARun.qv (q_load_rptr_agg rfl rfl rfl) rfl <| n_alloc rfl rfl rfl rfl fun b14 => n_store_ptr rfl rfl rfl rfl .p0 rfl rfl <| rN <| tSR <| ARun.qv (q_load_ptr_all rfl rfl .p1 rfl) rfl <| ARun.qv (q_load_ptr_all rfl rfl .p0 rfl) rfl <| bndE h fun v15 e4 h => r_callp rfl (item_Matches_c e4) (CoL.refl _) rfl <| rN <| ATodo.cut (fun σ' => ∃ (b16 : Bk) (l17 : List Str), device_Select_j1 n11 l17 = some z1 ∧ σ' = ⟨38, [(2, .ptr b1 0), (8, .sl 1 b16 0 l17.length), (21, .list 8 (p1x0.map ItemS.av)), (22, I (p1x0.length : Int)), (23, I n11)], [(b1, .cells [I p0x0.Kind, .str p0x0.Field, .str p0x0.Op, I p0x0.Value.Kind, .bool p0x0.Value.Flag, I p0x0.Value.Number, .str p0x0.Value.Words, I p0x0.Version.Major, I p0x0.Version.Minor, I p0x0.Version.Patch, .list 11 (p0x0.Kids.map Query.av)]), (b16, .arr 1 (l17.map AV.str))]⟩) ?_ ?_
          · refine ATodo.cond rfl (fun hc => ?_) (fun hc => ?_)
            · exact have h := iteT hc h; tR <| rM rfl rfl <| rF rfl rfl rfl <| rF rfl rfl rfl <| rL rfl rfl .p0 rfl rfl <| n_buildSliceL (xs := ([v13.Device.Key] : List Str).map AV.str) rfl rfl rfl rfl rfl rfl <| bndE h fun l18 e5 h => t_append (g := AV.str) rfl rfl rfl rfl rfl rfl rfl rfl (.list _) e5 (fun _ => .p2) rfl fun b19 => rA rfl rfl <| rN <| ATodo.stop <| ImpX.lq [1, 1] ⟨b19, l18, h, rfl⟩ rfl rfl
            · exact have h := iteFb hc h; tK <| ATodo.stop <| ImpX.lq [1, 1] ⟨b9, l10, h, rfl⟩ rfl rfl
          · rintro σ' ⟨b16, l17, h, rfl⟩
            unfold device_Select_j1 at h
            refine ATodo.blk <| tR <| ARun.qv (q_addw rfl rfl) rfl <| rM rfl rfl <| rN <| ATodo.stop <| ?_
            obtain rfl := Option.some.inj h
            exact hJ1 _ _ rfl <| ImpX.lq [0, 0] ⟨b16, rfl⟩ rfl rfl
        · refine have h := iteF hc h; ATodo.exit rfl <| have h := outL h hA1; tSR <| rM rfl rfl <| rA rfl rfl <| rA rfl rfl <| rN <| ATodo.ret <| ?_
          obtain rfl := Option.some.inj h
          exact ImpX.here ⟨_, .cons (.tmp _ _ rfl) (.cons (.tmp _ _ rfl) .nil), _, .cons .p1 .nil, ⟨b9, rfl, rfl⟩⟩

set_option maxHeartbeats 4000000 in
theorem Q_leaves_bd_c [GI : GTab] {self : Query → Option (List Query)} (self_h : ∀ {p0x0 : Query} {r : (List Query)}, self p0x0 = some r → ACall Tryz.prog 120 [.agg [I p0x0.Kind, .str p0x0.Field, .str p0x0.Op, I p0x0.Value.Kind, .bool p0x0.Value.Flag, I p0x0.Value.Number, .str p0x0.Value.Words, I p0x0.Version.Major, I p0x0.Version.Minor, I p0x0.Version.Patch, .list 11 (p0x0.Kids.map Query.av)]] [] (T1 (fun d_0 => [(d_0, .arr 11 (r.map Query.av))]) (fun d_0 => .sl 11 d_0 0 r.length))) {p0x0 : Query} {r : (List Query)} (h : Q_leaves_bd self p0x0 = some r) : ACall Tryz.prog 120 [.agg [I p0x0.Kind, .str p0x0.Field, .str p0x0.Op, I p0x0.Value.Kind, .bool p0x0.Value.Flag, I p0x0.Value.Number, .str p0x0.Value.Words, I p0x0.Version.Major, I p0x0.Version.Minor, I p0x0.Version.Patch, .list 11 (p0x0.Kids.map Query.av)]] [] (T1 (fun d_0 => [(d_0, .arr 11 (r.map Query.av))]) (fun d_0 => .sl 11 d_0 0 r.length)) := by
  unfold Q_leaves_bd at h
  refine ACall.lessH ?_
  refine ACall.bodyN Tryz.func120 rfl Tryz.ntmps120 Tryz.results120 rfl rfl ?_
  refine tSR <| n_box rfl rfl rfl rfl fun b1 => rA rfl rfl <| rN <| tSR <| rA rfl rfl <| rN <| tS <| tS <| ATodo.cut (fun σ' => ∃ (c2 : Bool), Q_leaves_j1 self p0x0 c2 = some r ∧ σ' = ⟨31, [(1, .ptr b1 0), (3, .nil), (13, .bool c2)], [(b1, .cells [I p0x0.Kind, .str p0x0.Field, .str p0x0.Op, I p0x0.Value.Kind, .bool p0x0.Value.Flag, I p0x0.Value.Number, .str p0x0.Value.Words, I p0x0.Version.Major, I p0x0.Version.Minor, I p0x0.Version.Patch, .list 11 (p0x0.Kids.map Query.av)])]⟩) ?_ ?_
  · refine tR <| rF rfl rfl rfl <| rL rfl rfl .p0 rfl rfl <| ARun.qv (q_eql rfl rfl) rfl <| rM rfl rfl <| ARun.guard_df rfl rfl rfl (fun hc => ?_) (fun hc => ?_)
    · rw [orFd hc] at h
      exact rF rfl rfl rfl <| rY rfl rfl rfl <| rL rfl rfl .p0 rfl rfl <| rY rfl rfl rfl <| ARun.qv (q_eql rfl rfl) rfl <| rE rfl rfl rfl <| rN <| ATodo.stop <| ImpX.lq [0] ⟨decide (p0x0.Kind = (2 : Int)), h, rfl⟩ rfl rfl
    · rw [orTd hc] at h
      exact rG rfl rfl rfl rfl <| rG rfl rfl rfl rfl <| rT rfl rfl rfl <| rN <| ATodo.stop <| ImpX.lq [0] ⟨true, h, rfl⟩ rfl rfl
  · rintro σ' ⟨c2, h, rfl⟩
    unfold Q_leaves_j1 at h
    refine ATodo.cut (fun σ' => ∃ (b3 : Bk) (l4 : List Query), Q_leaves_j2 self p0x0 l4 = some r ∧ σ' = ⟨31, [(1, .ptr b1 0), (3, .sl 11 b3 0 l4.length)], [(b1, .cells [I p0x0.Kind, .str p0x0.Field, .str p0x0.Op, I p0x0.Value.Kind, .bool p0x0.Value.Flag, I p0x0.Value.Number, .str p0x0.Value.Words, I p0x0.Version.Major, I p0x0.Version.Minor, I p0x0.Version.Patch, .list 11 (p0x0.Kids.map Query.av)]), (b3, .arr 11 (l4.map Query.av))]⟩) ?_ ?_
    · refine ATodo.cond rfl (fun hc => ?_) (fun hc => ?_)
      · exact have h := iteT hc h; tR <| rM rfl rfl <| ARun.qv (q_load_ptr_all rfl rfl .p0 rfl) rfl <| n_buildSliceL (xs := ([p0x0] : List Query).map Query.av) rfl (by simp only [List.map_cons, List.map_nil, Query.av_eq]; rfl) rfl (by simp only [List.map_cons, List.map_nil, Query.av_eq]; rfl) rfl rfl <| bndE h fun l5 e1 h => t_append0 (g := Query.av) rfl rfl rfl rfl rfl rfl rfl rfl (.list _) e1 fun b6 => rA rfl rfl <| rN <| ATodo.stop <| ImpX.lq [1, 0] ⟨b6, l5, h, rfl⟩ rfl rfl
      · exact have h := iteFb hc h; tK <| ATodo.stop <| ImpX.arr (s := 3) 11 rfl fun b7 => ImpX.lq [1, 0] ⟨b7, [], h, rfl⟩ rfl rfl
    · rintro σ' ⟨b3, l4, h, rfl⟩
      unfold Q_leaves_j2 at h
      refine tS <| tSR <| rF rfl rfl rfl <| rL rfl rfl .p0 rfl rfl <| ARun.qv (t_len rfl) rfl <| rM rfl rfl <| rN <| ATodo.block <| ATodo.loopI (fun x : (List Query) × Int => Q_leaves_b1 self p0x0 x.1 x.2) (fun x σ' => ∃ (b11 : Bk), σ' = ⟨31, [(3, .sl 11 b11 0 x.1.length), (19, .list 11 (p0x0.Kids.map Query.av)), (20, I (p0x0.Kids.length : Int)), (21, I x.2)], [(b11, .arr 11 (x.1.map Query.av))]⟩) h ?_ ?_
      · exact ImpX.lq [1] ⟨b3, rfl⟩ rfl rfl
      · intro x z1 σ' J1 hmk h hJ1 hA1
        obtain ⟨l12, n13⟩ := x
        obtain ⟨b11, rfl⟩ := hmk
        replace h : Q_leaves_b1 self p0x0 l12 n13 = some z1 := h
        unfold Q_leaves_b1 at h
        refine tSR <| ARun.qv (q_lss rfl rfl) rfl <| rN <| tS <| ATodo.cond_d rfl (fun hc => ?_) (fun hc => ?_)
        · refine have h := iteT hc h; tK <| tS <| ATodo.block <| tSR <| bndE h fun v14 e2 h => ARun.qv (t_index rfl rfl rfl e2 rfl (by rw [Query.av_eq]; rfl)) rfl <| ARun.qv (q_load_rptr_agg rfl rfl rfl) rfl <| n_alloc rfl rfl rfl rfl fun b15 => n_store_ptr rfl rfl rfl rfl .p0 rfl rfl <| rN <| tR <| rM rfl rfl <| ARun.qv (q_load_ptr_all rfl rfl .p0 rfl) rfl <| bndE h fun v16 e3 h => t_call1 rfl (self_h e3) (CoL.refl _) .nil (fun _ => rfl) rfl fun b17 => bndE h fun l18 e4 h => t_append (g := Query.av) rfl rfl rfl rfl rfl rfl rfl rfl (bound_src (.inl .p0) rfl) e4 (fun _ => .p2) rfl fun b19 => rA rfl rfl <| rN <| ATodo.blk <| tR <| ARun.qv (q_addw rfl rfl) rfl <| rM rfl rfl <| rN <| ATodo.stop <| ?_
          obtain rfl := Option.some.inj h
          exact hJ1 _ _ rfl <| ImpX.lq [2] ⟨b19, rfl⟩ rfl rfl
        · refine have h := iteF hc h; ATodo.exit rfl <| have h := outL h hA1; tSR <| rM rfl rfl <| rA rfl rfl <| rN <| ATodo.ret <| ?_
          obtain rfl := Option.some.inj h
          exact ImpX.here ⟨_, .cons (.tmp _ _ rfl) .nil, _, .cons .p0 .nil, ⟨b11, rfl, rfl⟩⟩
theorem Q_leaves_r_c [GI : GTab] : ∀ (k : Nat) {p0x0 : Query} {r : (List Query)}, Q_leaves_r k p0x0 = some r → ACall Tryz.prog 120 [.agg [I p0x0.Kind, .str p0x0.Field, .str p0x0.Op, I p0x0.Value.Kind, .bool p0x0.Value.Flag, I p0x0.Value.Number, .str p0x0.Value.Words, I p0x0.Version.Major, I p0x0.Version.Minor, I p0x0.Version.Patch, .list 11 (p0x0.Kids.map Query.av)]] [] (T1 (fun d_0 => [(d_0, .arr 11 (r.map Query.av))]) (fun d_0 => .sl 11 d_0 0 r.length)) := by
  intro k
  induction k with
  | zero => intro p0x0 r h; cases h
  | succ k ih => intro p0x0 r h; exact Q_leaves_bd_c ih h
theorem Q_leaves_c [GI : GTab] {p0x0 : Query} {r : (List Query)} (h : Q_leaves p0x0 = some r) : ACall Tryz.prog 120 [.agg [I p0x0.Kind, .str p0x0.Field, .str p0x0.Op, I p0x0.Value.Kind, .bool p0x0.Value.Flag, I p0x0.Value.Number, .str p0x0.Value.Words, I p0x0.Version.Major, I p0x0.Version.Minor, I p0x0.Version.Patch, .list 11 (p0x0.Kids.map Query.av)]] [] (T1 (fun d_0 => [(d_0, .arr 11 (r.map Query.av))]) (fun d_0 => .sl 11 d_0 0 r.length)) := Q_leaves_r_c depth h

set_option maxHeartbeats 4000000 in
theorem Q_deep_bd_c [GI : GTab] {self : Query → Option Int} (self_h : ∀ {p0x0 : Query} {r : Int}, self p0x0 = some r → Pu Tryz.prog 121 [.agg [I p0x0.Kind, .str p0x0.Field, .str p0x0.Op, I p0x0.Value.Kind, .bool p0x0.Value.Flag, I p0x0.Value.Number, .str p0x0.Value.Words, I p0x0.Version.Major, I p0x0.Version.Minor, I p0x0.Version.Patch, .list 11 (p0x0.Kids.map Query.av)]] (I r)) {p0x0 : Query} {r : Int} (h : Q_deep_bd self p0x0 = some r) : Pu Tryz.prog 121 [.agg [I p0x0.Kind, .str p0x0.Field, .str p0x0.Op, I p0x0.Value.Kind, .bool p0x0.Value.Flag, I p0x0.Value.Number, .str p0x0.Value.Words, I p0x0.Version.Major, I p0x0.Version.Minor, I p0x0.Version.Patch, .list 11 (p0x0.Kids.map Query.av)]] (I r) := by
  unfold Q_deep_bd at h
  refine ACall.bodyN Tryz.func121 rfl Tryz.ntmps121 Tryz.results121 rfl rfl ?_
  refine tSR <| n_box rfl rfl rfl rfl fun b1 => rA rfl rfl <| rN <| tSR <| rA rfl rfl <| rN <| tS <| tSR <| rF rfl rfl rfl <| rL rfl rfl .p0 rfl rfl <| ARun.qv (t_len rfl) rfl <| rM rfl rfl <| rN <| ATodo.block <| ATodo.loopI (fun x : Int × Int => Q_deep_b1 self p0x0 x.1 x.2) (fun x σ' => σ' = ⟨20, [(3, I x.1), (7, .list 11 (p0x0.Kids.map Query.av)), (8, I (p0x0.Kids.length : Int)), (9, I x.2)], []⟩) h ?_ ?_
  · exact ImpX.lq [] rfl rfl rfl
  · intro x z1 σ' J1 hmk h hJ1 hA1
    obtain ⟨n4, n5⟩ := x
    obtain rfl := hmk
    replace h : Q_deep_b1 self p0x0 n4 n5 = some z1 := h
    unfold Q_deep_b1 at h
    refine tSR <| ARun.qv (q_lss rfl rfl) rfl <| rN <| tS <| ATodo.cond_d rfl (fun hc => ?_) (fun hc => ?_)
    · refine have h := iteT hc h; tK <| tS <| ATodo.block <| tSR <| bndE h fun v6 e1 h => ARun.qv (t_index rfl rfl rfl e1 rfl (by rw [Query.av_eq]; rfl)) rfl <| ARun.qv (q_load_rptr_agg rfl rfl rfl) rfl <| n_alloc rfl rfl rfl rfl fun b7 => n_store_ptr rfl rfl rfl rfl .p0 rfl rfl <| rN <| tR <| rM rfl rfl <| ARun.qv (q_load_ptr_all rfl rfl .p0 rfl) rfl <| bndE h fun v8 e2 h => r_callp rfl (self_h e2) (CoL.refl _) rfl <| ARun.qv (q_max rfl rfl) rfl <| rA rfl rfl <| rN <| ATodo.blk <| tR <| ARun.qv (q_addw rfl rfl) rfl <| rM rfl rfl <| rN <| ATodo.stop <| ?_
      obtain rfl := Option.some.inj h
      exact hJ1 _ _ rfl <| ImpX.lq [] rfl rfl rfl
    · refine have h := iteF hc h; ATodo.exit rfl <| have h := outL h hA1; tSR <| rM rfl rfl <| ARun.qv (q_addw rfl rfl) rfl <| rA rfl rfl <| rN <| ATodo.ret <| ?_
      obtain rfl := Option.some.inj h
      exact ImpX.here ⟨_, .cons (.tmp _ _ rfl) .nil, rfl⟩
theorem Q_deep_r_c [GI : GTab] : ∀ (k : Nat) {p0x0 : Query} {r : Int}, Q_deep_r k p0x0 = some r → Pu Tryz.prog 121 [.agg [I p0x0.Kind, .str p0x0.Field, .str p0x0.Op, I p0x0.Value.Kind, .bool p0x0.Value.Flag, I p0x0.Value.Number, .str p0x0.Value.Words, I p0x0.Version.Major, I p0x0.Version.Minor, I p0x0.Version.Patch, .list 11 (p0x0.Kids.map Query.av)]] (I r) := by
  intro k
  induction k with
  | zero => intro p0x0 r h; cases h
  | succ k ih => intro p0x0 r h; exact Q_deep_bd_c ih h
theorem Q_deep_c [GI : GTab] {p0x0 : Query} {r : Int} (h : Q_deep p0x0 = some r) : Pu Tryz.prog 121 [.agg [I p0x0.Kind, .str p0x0.Field, .str p0x0.Op, I p0x0.Value.Kind, .bool p0x0.Value.Flag, I p0x0.Value.Number, .str p0x0.Value.Words, I p0x0.Version.Major, I p0x0.Version.Minor, I p0x0.Version.Patch, .list 11 (p0x0.Kids.map Query.av)]] (I r) := Q_deep_r_c depth h

set_option maxHeartbeats 4000000 in
theorem Q_in_c [GI : GTab] {p0x0 : Int} {p1x0 : Int} {p2x0 : Int} {r : Bool} (h : Q_in p0x0 p1x0 p2x0 = r) : Pu Tryz.prog 85 [I p0x0, I p1x0, I p2x0] (.bool r) := by
  unfold Q_in at h
  refine ACall.bodyN Tryz.func85 rfl Tryz.ntmps85 Tryz.results85 rfl rfl ?_
  refine tSR <| rA rfl rfl <| rN <| tS <| ATodo.cut (fun σ' => ∃ (c1 : Bool), Q_in_j1 c1 = r ∧ σ' = ⟨15, [(6, .bool c1)], []⟩) ?_ ?_
  · refine tR <| rM rfl rfl <| rM rfl rfl <| ARun.qv (q_leq rfl rfl) rfl <| rM rfl rfl <| ARun.guard_dt rfl rfl rfl (fun hc => ?_) (fun hc => ?_)
    · rw [andTd hc] at h
      exact rM rfl rfl <| rY rfl rfl rfl <| rM rfl rfl <| rY rfl rfl rfl <| ARun.qv (q_leq rfl rfl) rfl <| rT rfl rfl rfl <| rA rfl rfl <| rN <| ATodo.stop <| ImpX.lq [] ⟨decide (p0x0 ≤ p2x0), h, rfl⟩ rfl rfl
    · rw [andFd hc] at h
      exact rG rfl rfl rfl rfl <| rG rfl rfl rfl rfl <| rE rfl rfl rfl <| rA rfl rfl <| rN <| ATodo.stop <| ImpX.lq [] ⟨false, h, rfl⟩ rfl rfl
  · rintro σ' ⟨c1, h, rfl⟩
    unfold Q_in_j1 at h
    refine ATodo.ret <| ?_
    obtain rfl := h
    exact ImpX.here ⟨_, .cons (.tmp _ _ rfl) .nil, rfl⟩

set_option maxHeartbeats 4000000 in
theorem Q_oneQuery_1x_c [GI : GTab] {p0x0 : Query} {p1x0 : Query} {r : Bool} (h : Q_oneQuery_1x p0x0 p1x0 = r) : Pu Tryz.prog 179 [.agg [I p0x0.Kind, .str p0x0.Field, .str p0x0.Op, I p0x0.Value.Kind, .bool p0x0.Value.Flag, I p0x0.Value.Number, .str p0x0.Value.Words, I p0x0.Version.Major, I p0x0.Version.Minor, I p0x0.Version.Patch, .list 11 (p0x0.Kids.map Query.av)], .rptr [I p1x0.Kind, .str p1x0.Field, .str p1x0.Op, I p1x0.Value.Kind, .bool p1x0.Value.Flag, I p1x0.Value.Number, .str p1x0.Value.Words, I p1x0.Version.Major, I p1x0.Version.Minor, I p1x0.Version.Patch, .list 11 (p1x0.Kids.map Query.av)]] (.bool r) := by
  unfold Q_oneQuery_1x at h
  refine ACall.bodyN Tryz.func179 rfl Tryz.ntmps179 Tryz.results179 rfl rfl ?_
  refine tSR <| n_box rfl rfl rfl rfl fun b1 => rA rfl rfl <| rN <| tSR <| rF rfl rfl rfl <| rL rfl rfl .p0 rfl rfl <| ARun.qv (n_field_rptr rfl rfl) rfl <| ARun.qv (q_load_rptr rfl rfl rfl) rfl <| ARun.qv (q_eql rfl rfl) rfl <| rA rfl rfl <| rN <| ATodo.ret <| ?_
  obtain rfl := h
  exact ImpX.here ⟨_, .cons (.tmp _ _ rfl) .nil, rfl⟩

set_option maxHeartbeats 4000000 in
theorem Q_Key_c {p0x0 : Str} {r : Bool} (h : Q_Key p0x0 = some r) : Pu Tryz.prog 69 [.str p0x0] (.bool r) := by
  unfold Q_Key at h
  refine ACall.bodyN Tryz.func69 rfl Tryz.ntmps69 Tryz.results69 rfl rfl ?_
  refine tSR <| rA rfl rfl <| rN <| tS <| ATodo.cut (fun σ' => ∃ (c1 : Bool), Q_Key_j1 c1 = some r ∧ σ' = ⟨17, [(2, .bool c1)], []⟩) ?_ ?_
  · refine tR <| rM rfl rfl <| ARun.qv (q_len_str rfl) rfl <| r_callp rfl (Q_in_c rfl) (CoL.refl _) rfl <| rM rfl rfl <| ARun.guard rfl rfl rfl (fun hc => ?_) (fun hc => ?_)
    · refine have h := iteT hc h; rM rfl rfl <| rY rfl rfl rfl <| bndE h fun v2 e1 h => r_callp rfl (strings_Trim_c e1) (CoL.refl _) rfl <| rY rfl rfl rfl <| ARun.qv (q_seq rfl rfl) rfl <| rT rfl rfl rfl <| rM rfl rfl <| ARun.guard_dt rfl rfl rfl (fun hc => ?_) (fun hc => ?_)
      · exact have h := iteT hc h; rM rfl rfl <| rY rfl rfl rfl <| bndE h fun c3 e2 h => ARun.qv (t_index_str rfl rfl e2) rfl <| rY rfl rfl rfl <| r_callp rfl (strings_IndexByte_c rfl) (CoL.refl _) rfl <| rY rfl rfl rfl <| ARun.qv (q_geq rfl rfl) rfl <| rT rfl rfl rfl <| rA rfl rfl <| rN <| ATodo.stop <| ImpX.lq [] ⟨decide ((0 : Int) ≤ (indexByteI ([97, 98, 99, 100, 101, 102, 103, 104, 105, 106, 107, 108, 109, 110, 111, 112, 113, 114, 115, 116, 117, 118, 119, 120, 121, 122] : Str) (c3.toNat : Int))), h, rfl⟩ rfl rfl
      · exact have h := iteF hc h; rG rfl rfl rfl rfl <| rG rfl rfl rfl rfl <| rG rfl rfl rfl rfl <| rE rfl rfl rfl <| rA rfl rfl <| rN <| ATodo.stop <| ImpX.lq [] ⟨false, h, rfl⟩ rfl rfl
    · exact have h := iteFb hc h; rG rfl rfl rfl rfl <| rG rfl rfl rfl rfl <| rE rfl rfl rfl <| rM rfl rfl <| rG rfl rfl rfl rfl <| rG rfl rfl rfl rfl <| rG rfl rfl rfl rfl <| rG rfl rfl rfl rfl <| rE rfl rfl rfl <| rA rfl rfl <| rN <| ATodo.stop <| ImpX.lq [] ⟨false, h, rfl⟩ rfl rfl
  · rintro σ' ⟨c1, h, rfl⟩
    unfold Q_Key_j1 at h
    refine ATodo.ret <| ?_
    obtain rfl := Option.some.inj h
    exact ImpX.here ⟨_, .cons (.tmp _ _ rfl) .nil, rfl⟩

set_option maxHeartbeats 4000000 in
theorem Q_PropName_1x_c {p0x0 : Str} {r : Bool} (h : Q_PropName_1x p0x0 = some r) : Pu Tryz.prog 183 [.str p0x0] (.bool r) := by
  unfold Q_PropName_1x at h
  refine ACall.bodyN Tryz.func183 rfl Tryz.ntmps183 Tryz.results183 rfl rfl ?_
  refine tSR <| rA rfl rfl <| rN <| tSR <| rM rfl rfl <| bndE h fun v1 e1 h => r_callp rfl (Q_Key_c e1) (CoL.refl _) rfl <| ARun.qv (q_not rfl) rfl <| rA rfl rfl <| rN <| ATodo.ret <| ?_
  obtain rfl := Option.some.inj h
  exact ImpX.here ⟨_, .cons (.tmp _ _ rfl) .nil, rfl⟩

set_option maxHeartbeats 4000000 in
theorem slices_IndexFunc_string_string_c [GI : GTab] {p0x0 : List Str} {fnb : Str → Option Bool} {fnb_F : FuncId} [IsFn Tryz.prog fnb_F] {fnb_C : List AV} (fnb_h : ∀ {y0 : _} {u : Bool}, fnb y0 = some u → Pu Tryz.prog fnb_F (.str y0 ::  fnb_C) (.bool u)) {r : Int} (h : slices_IndexFunc_string_string p0x0 fnb = some r) : Pu Tryz.prog 135 [.list 1 (p0x0.map AV.str), .func (.func fnb_F) fnb_C] (I r) := by
  unfold slices_IndexFunc_string_string at h
  refine ACall.bodyN Tryz.func135 rfl Tryz.ntmps135 Tryz.results135 rfl rfl ?_
  refine tSR <| rA rfl rfl <| rN <| tS <| tSR <| rM rfl rfl <| ARun.qv (t_len rfl) rfl <| rM rfl rfl <| rN <| ATodo.block <| ATodo.loopI (fun x : Int => slices_IndexFunc_string_string_b1 p0x0 fnb x) (fun x σ' => σ' = ⟨19, [(0, .list 1 (p0x0.map AV.str)), (1, .func (.func fnb_F) fnb_C), (7, I (p0x0.length : Int)), (8, I x)], []⟩) h ?_ ?_
  · exact ImpX.lq [] rfl rfl rfl
  · intro n2 z1 σ' J1 hmk h hJ1 hA1
    obtain rfl := hmk
    replace h : slices_IndexFunc_string_string_b1 p0x0 fnb n2 = some z1 := h
    unfold slices_IndexFunc_string_string_b1 at h
    refine tSR <| ARun.qv (q_lss rfl rfl) rfl <| rN <| tS <| ATodo.cond_d rfl (fun hc => ?_) (fun hc => ?_)
    · refine have h := iteT hc h; tK <| tS <| ATodo.block <| tSR <| rM rfl rfl <| rA rfl rfl <| rN <| tSR <| rM rfl rfl <| rM rfl rfl <| rM rfl rfl <| bndE h fun v3 e1 h => ARun.qv (t_index rfl rfl rfl e1 rfl rfl) rfl <| ARun.qv (q_load_rptr rfl rfl rfl) rfl <| bndE h fun v4 e2 h => r_callvp rfl rfl (fnb_h e2) (CoL.refl _) rfl <| rN <| ATodo.cond rfl (fun hc => ?_) (fun hc => ?_)
      · refine have h := iteT hc h; tSR <| rM rfl rfl <| rA rfl rfl <| rN <| ATodo.ret <| have h := outL h hA1; ?_
        obtain rfl := Option.some.inj h
        exact ImpX.here ⟨_, .cons (.tmp _ _ rfl) .nil, rfl⟩
      · refine have h := iteFb hc h; tK <| ATodo.blk <| tR <| ARun.qv (q_addw rfl rfl) rfl <| rM rfl rfl <| rN <| ATodo.stop <| ?_
        obtain rfl := Option.some.inj h
        exact hJ1 _ _ rfl <| ImpX.lq [] rfl rfl rfl
    · refine have h := iteF hc h; ATodo.exit rfl <| have h := outL h hA1; tSR <| rA rfl rfl <| rN <| ATodo.ret <| ?_
      obtain rfl := Option.some.inj h
      exact ImpX.here ⟨_, .cons (.tmp _ _ rfl) .nil, rfl⟩

set_option maxHeartbeats 4000000 in
theorem slices_ContainsFunc_string_string_c [GI : GTab] {p0x0 : List Str} {fnb : Str → Option Bool} {fnb_F : FuncId} [IsFn Tryz.prog fnb_F] {fnb_C : List AV} (fnb_h : ∀ {y0 : _} {u : Bool}, fnb y0 = some u → Pu Tryz.prog fnb_F (.str y0 ::  fnb_C) (.bool u)) {r : Bool} (h : slices_ContainsFunc_string_string p0x0 fnb = some r) : Pu Tryz.prog 58 [.list 1 (p0x0.map AV.str), .func (.func fnb_F) fnb_C] (.bool r) := by
  unfold slices_ContainsFunc_string_string at h
  refine ACall.bodyN Tryz.func58 rfl Tryz.ntmps58 Tryz.results58 rfl rfl ?_
  refine tSR <| rA rfl rfl <| rN <| tSR <| rM rfl rfl <| rM rfl rfl <| bndE h fun v1 e1 h => r_callpB rfl (slices_IndexFunc_string_string_c fnb_h e1) (.cons (.co (.refl _)) (.cons (.co (.refl _)) .nil)) rfl rfl <| ARun.qv (q_geq rfl rfl) rfl <| rA rfl rfl <| rN <| ATodo.ret <| ?_
  obtain rfl := Option.some.inj h
  exact ImpX.here ⟨_, .cons (.tmp _ _ rfl) .nil, rfl⟩

set_option maxHeartbeats 4000000 in
theorem Q_PropName_c {p0x0 : Str} {r : Bool} (h : Q_PropName p0x0 = some r) : Pu Tryz.prog 125 [.str p0x0] (.bool r) := by
  unfold Q_PropName at h
  refine ACall.bodyN Tryz.func125 rfl Tryz.ntmps125 Tryz.results125 rfl rfl ?_
  refine tSR <| rA rfl rfl <| rN <| tSR <| rM rfl rfl <| bndE h fun v1 e1 h => t_call1 rfl (strings_Split_c e1) (CoL.refl _) .nil (fun _ => rfl) rfl fun b2 => rA rfl rfl <| rN <| tS <| ATodo.cut (fun σ' => ∃ (c3 : Bool), Q_PropName_j1 c3 = some r ∧ σ' = ⟨19, [(2, .bool c3)], []⟩) ?_ ?_
  · refine tR <| rM rfl rfl <| ARun.qv (q_len_str rfl) rfl <| ARun.qv (q_leq rfl rfl) rfl <| rM rfl rfl <| ARun.guard_dt rfl rfl rfl (fun hc => ?_) (fun hc => ?_)
    · refine have h := iteT hc h; rM rfl rfl <| rY rfl rfl rfl <| ARun.qv (t_len_sl rfl) rfl <| rY rfl rfl rfl <| ARun.qv (q_leq rfl rfl) rfl <| rT rfl rfl rfl <| rM rfl rfl <| ARun.guard_dt rfl rfl rfl (fun hc => ?_) (fun hc => ?_)
      · exact have h := iteT hc h; rM rfl rfl <| rY rfl rfl rfl <| bndE h fun v4 e2 h => r_callpB rfl (slices_ContainsFunc_string_string_c (fun e => Q_PropName_1x_c e) e2) (.cons (CoB.arrT .p0) (.cons (.funcL _ _ _ .nil) .nil)) rfl rfl <| rY rfl rfl rfl <| ARun.qv (q_not rfl) rfl <| rT rfl rfl rfl <| rA rfl rfl <| rN <| ATodo.stop <| ImpX.lq [] ⟨!v4, h, rfl⟩ rfl rfl
      · exact have h := iteF hc h; rG rfl rfl rfl rfl <| rG rfl rfl rfl rfl <| rE rfl rfl rfl <| rA rfl rfl <| rN <| ATodo.stop <| ImpX.lq [] ⟨false, h, rfl⟩ rfl rfl
    · exact have h := iteF hc h; rG rfl rfl rfl rfl <| rG rfl rfl rfl rfl <| rE rfl rfl rfl <| rM rfl rfl <| rG rfl rfl rfl rfl <| rG rfl rfl rfl rfl <| rG rfl rfl rfl rfl <| rE rfl rfl rfl <| rA rfl rfl <| rN <| ATodo.stop <| ImpX.lq [] ⟨false, h, rfl⟩ rfl rfl
  · rintro σ' ⟨c3, h, rfl⟩
    unfold Q_PropName_j1 at h
    refine ATodo.ret <| ?_
    obtain rfl := Option.some.inj h
    exact ImpX.here ⟨_, .cons (.tmp _ _ rfl) .nil, rfl⟩

set_option maxHeartbeats 4000000 in
theorem Q_FieldRight_c {p0x0 : Str} {p1x0 : Bool} {r : Bool} (h : Q_FieldRight p0x0 p1x0 = some r) : Pu Tryz.prog 217 [.str p0x0, .bool p1x0] (.bool r) := by
  unfold Q_FieldRight at h
  refine ACall.bodyN Tryz.func217 rfl Tryz.ntmps217 Tryz.results217 rfl rfl ?_
  refine tSR <| rA rfl rfl <| rN <| tS <| tSR <| rM rfl rfl <| bndE h fun v1 e1 h => r_callp rfl (strings_CutPrefix_c e1) (CoL.refl _) rfl <| rM rfl rfl <| rX rfl rfl rfl <| rX rfl rfl rfl <| rA rfl rfl <| rA rfl rfl <| rN <| tS <| ATodo.cut (fun σ' => ∃ (c2 : Bool), Q_FieldRight_j1 p0x0 p1x0 c2 = some r ∧ σ' = ⟨36, [(0, .str p0x0), (1, .bool p1x0), (18, .bool c2)], []⟩) ?_ ?_
  · refine tR <| rM rfl rfl <| rM rfl rfl <| ARun.guard rfl rfl rfl (fun hc => ?_) (fun hc => ?_)
    · exact have h := iteT hc h; rM rfl rfl <| rY rfl rfl rfl <| bndE h fun v3 e2 h => r_callp rfl (Q_Key_c e2) (CoL.refl _) rfl <| rT rfl rfl rfl <| rN <| ATodo.stop <| ImpX.lq [] ⟨v3, h, rfl⟩ rfl rfl
    · exact have h := iteFb hc h; rG rfl rfl rfl rfl <| rE rfl rfl rfl <| rN <| ATodo.stop <| ImpX.lq [] ⟨false, h, rfl⟩ rfl rfl
  · rintro σ' ⟨c2, h, rfl⟩
    unfold Q_FieldRight_j1 at h
    refine ATodo.cond rfl (fun hc => ?_) (fun hc => ?_)
    · refine have h := iteT hc h; tSR <| rA rfl rfl <| rN <| ATodo.ret <| ?_
      obtain rfl := Option.some.inj h
      exact ImpX.here ⟨_, .cons (.tmp _ _ rfl) .nil, rfl⟩
    · refine have h := iteFb hc h; tK <| tS <| tSR <| rM rfl rfl <| bndE h fun v4 e3 h => r_callp rfl (strings_CutPrefix_c e3) (CoL.refl _) rfl <| rM rfl rfl <| rX rfl rfl rfl <| rX rfl rfl rfl <| rA rfl rfl <| rA rfl rfl <| rN <| tS <| ATodo.cut (fun σ' => ∃ (c5 : Bool), Q_FieldRight_j2 p0x0 p1x0 c5 = some r ∧ σ' = ⟨36, [(0, .str p0x0), (1, .bool p1x0), (28, .bool c5)], []⟩) ?_ ?_
      · refine tR <| rM rfl rfl <| rM rfl rfl <| ARun.guard rfl rfl rfl (fun hc => ?_) (fun hc => ?_)
        · exact have h := iteT hc h; rM rfl rfl <| rY rfl rfl rfl <| bndE h fun v6 e4 h => r_callp rfl (Q_PropName_c e4) (CoL.refl _) rfl <| rT rfl rfl rfl <| rN <| ATodo.stop <| ImpX.lq [] ⟨v6, h, rfl⟩ rfl rfl
        · exact have h := iteFb hc h; rG rfl rfl rfl rfl <| rE rfl rfl rfl <| rN <| ATodo.stop <| ImpX.lq [] ⟨false, h, rfl⟩ rfl rfl
      · rintro σ' ⟨c5, h, rfl⟩
        unfold Q_FieldRight_j2 at h
        refine ATodo.cond rfl (fun hc => ?_) (fun hc => ?_)
        · refine have h := iteT hc h; tSR <| rA rfl rfl <| rN <| ATodo.ret <| ?_
          obtain rfl := Option.some.inj h
          exact ImpX.here ⟨_, .cons (.tmp _ _ rfl) .nil, rfl⟩
        · refine have h := iteFb hc h; tK <| tS <| ATodo.cut (fun σ' => ∃ (c7 : Bool), Q_FieldRight_j3 c7 = some r ∧ σ' = ⟨36, [(4, .bool c7)], []⟩) ?_ ?_
          · refine tR <| rM rfl rfl <| ARun.qv (q_not rfl) rfl <| rM rfl rfl <| ARun.guard rfl rfl rfl (fun hc => ?_) (fun hc => ?_)
            · exact have h := iteT hc h; n_buildSliceL (xs := ([([107, 101, 121] : Str), ([109, 111, 100, 101, 108] : Str), ([116, 101, 110, 97, 110, 116] : Str), ([102, 105, 114, 109, 119, 97, 114, 101] : Str)]).map AV.str) rfl rfl rfl rfl rfl rfl <| rY rfl rfl rfl <| rM rfl rfl <| rY rfl rfl rfl <| bndE h fun v8 e5 h => r_callp rfl (slices_Contains_string_string_c e5) (CoL.refl _) rfl <| rT rfl rfl rfl <| rA rfl rfl <| rN <| ATodo.stop <| ImpX.lq [] ⟨v8, h, rfl⟩ rfl rfl
            · exact have h := iteFb hc h; rG rfl rfl rfl rfl <| rG rfl rfl rfl rfl <| rE rfl rfl rfl <| rA rfl rfl <| rN <| ATodo.stop <| ImpX.lq [] ⟨false, h, rfl⟩ rfl rfl
          · rintro σ' ⟨c7, h, rfl⟩
            unfold Q_FieldRight_j3 at h
            refine ATodo.ret <| ?_
            obtain rfl := Option.some.inj h
            exact ImpX.here ⟨_, .cons (.tmp _ _ rfl) .nil, rfl⟩

set_option maxHeartbeats 4000000 in
theorem Q_versionRight_c [GI : GTab] {p0x0 : Version} {r : Bool} (h : Q_versionRight p0x0 = r) : Pu Tryz.prog 123 [.agg [I p0x0.Major, I p0x0.Minor, I p0x0.Patch]] (.bool r) := by
  unfold Q_versionRight at h
  refine ACall.bodyN Tryz.func123 rfl Tryz.ntmps123 Tryz.results123 rfl rfl ?_
  refine tSR <| n_box rfl rfl rfl rfl fun b1 => rA rfl rfl <| rN <| tS <| ATodo.cut (fun σ' => ∃ (c2 : Bool), Q_versionRight_j1 c2 = r ∧ σ' = ⟨16, [(2, .bool c2)], []⟩) ?_ ?_
  · refine tR <| rF rfl rfl rfl <| rL rfl rfl .p0 rfl rfl <| r_callp rfl (Q_in_c rfl) (CoL.refl _) rfl <| rM rfl rfl <| ARun.guard rfl rfl rfl (fun hc => ?_) (fun hc => ?_)
    · rw [andTb hc] at h
      refine rF rfl rfl rfl <| rY rfl rfl rfl <| rL rfl rfl .p0 rfl rfl <| rY rfl rfl rfl <| r_callp rfl (Q_in_c rfl) (CoL.refl _) rfl <| rT rfl rfl rfl <| rM rfl rfl <| ARun.guard rfl rfl rfl (fun hc => ?_) (fun hc => ?_)
      · rw [andTb hc] at h
        exact rF rfl rfl rfl <| rY rfl rfl rfl <| rL rfl rfl .p0 rfl rfl <| rY rfl rfl rfl <| r_callp rfl (Q_in_c rfl) (CoL.refl _) rfl <| rT rfl rfl rfl <| rA rfl rfl <| rN <| ATodo.stop <| ImpX.lq [] ⟨(Q_in p0x0.Patch (0 : Int) (9999 : Int)), h, rfl⟩ rfl rfl
      · rw [andFb hc] at h
        exact rG rfl rfl rfl rfl <| rG rfl rfl rfl rfl <| rE rfl rfl rfl <| rA rfl rfl <| rN <| ATodo.stop <| ImpX.lq [] ⟨false, h, rfl⟩ rfl rfl
    · rw [andFb hc] at h
      exact rG rfl rfl rfl rfl <| rG rfl rfl rfl rfl <| rE rfl rfl rfl <| rM rfl rfl <| rG rfl rfl rfl rfl <| rG rfl rfl rfl rfl <| rG rfl rfl rfl rfl <| rE rfl rfl rfl <| rA rfl rfl <| rN <| ATodo.stop <| ImpX.lq [] ⟨false, h, rfl⟩ rfl rfl
  · rintro σ' ⟨c2, h, rfl⟩
    unfold Q_versionRight_j1 at h
    refine ATodo.ret <| ?_
    obtain rfl := h
    exact ImpX.here ⟨_, .cons (.tmp _ _ rfl) .nil, rfl⟩

set_option maxHeartbeats 4000000 in
theorem Q_RightValue_c {p0x0 : ValueS} {r : Bool} (h : Q_RightValue p0x0 = some r) : Pu Tryz.prog 126 [.agg [I p0x0.Kind, .bool p0x0.Flag, I p0x0.Number, .str p0x0.Words]] (.bool r) := by
  unfold Q_RightValue at h
  refine ACall.bodyN Tryz.func126 rfl Tryz.ntmps126 Tryz.results126 rfl rfl ?_
  refine tSR <| n_box rfl rfl rfl rfl fun b1 => rA rfl rfl <| rN <| tSR <| rF rfl rfl rfl <| rL rfl rfl .p0 rfl rfl <| rF rfl rfl rfl <| rL rfl rfl .p0 rfl rfl <| ARun.qv (q_neq rfl rfl) rfl <| rF rfl rfl rfl <| rL rfl rfl .p0 rfl rfl <| ARun.qv (q_sne rfl rfl) rfl <| n_buildSliceL (xs := ([p0x0.Flag, decide (p0x0.Number ≠ (0 : Int)), decide (p0x0.Words ≠ ([] : Str))]).map AV.bool) rfl rfl rfl rfl rfl rfl <| rA rfl rfl <| rN <| tS <| tSR <| rM rfl rfl <| ARun.qv (t_len rfl) rfl <| rM rfl rfl <| rN <| ATodo.block <| ATodo.loopI (fun x : Int => Q_RightValue_b1 p0x0 x) (fun x σ' => σ' = ⟨50, [(1, .ptr b1 0), (15, .list 1 ([p0x0.Flag, decide (p0x0.Number ≠ (0 : Int)), decide (p0x0.Words ≠ ([] : Str))].map AV.bool)), (16, I ([p0x0.Flag, decide (p0x0.Number ≠ (0 : Int)), decide (p0x0.Words ≠ ([] : Str))].length : Int)), (17, I x)], [(b1, .cells [I p0x0.Kind, .bool p0x0.Flag, I p0x0.Number, .str p0x0.Words])]⟩) h ?_ ?_
  · exact ImpX.lq [0] rfl rfl rfl
  · intro n3 z1 σ' J1 hmk h hJ1 hA1
    obtain rfl := hmk
    replace h : Q_RightValue_b1 p0x0 n3 = some z1 := h
    unfold Q_RightValue_b1 at h
    refine tSR <| ARun.qv (q_lss rfl rfl) rfl <| rN <| tS <| ATodo.cond_d rfl (fun hc => ?_) (fun hc => ?_)
    · refine have h := iteT hc h; tK <| tS <| ATodo.block <| tSR <| rM rfl rfl <| bndE h fun v4 e1 h => ARun.qv (t_index rfl rfl rfl e1 rfl rfl) rfl <| ARun.qv (q_load_rptr rfl rfl rfl) rfl <| rA rfl rfl <| rA rfl rfl <| rN <| tS <| ATodo.cut (fun σ' => ∃ (c5 : Bool), Q_RightValue_j1 n3 c5 = some z1 ∧ σ' = ⟨50, [(1, .ptr b1 0), (15, .list 1 ([p0x0.Flag, decide (p0x0.Number ≠ (0 : Int)), decide (p0x0.Words ≠ ([] : Str))].map AV.bool)), (16, I ([p0x0.Flag, decide (p0x0.Number ≠ (0 : Int)), decide (p0x0.Words ≠ ([] : Str))].length : Int)), (17, I n3), (29, .bool c5)], [(b1, .cells [I p0x0.Kind, .bool p0x0.Flag, I p0x0.Number, .str p0x0.Words])]⟩) ?_ ?_
      · refine tR <| rM rfl rfl <| rM rfl rfl <| ARun.guard rfl rfl rfl (fun hc => ?_) (fun hc => ?_)
        · rw [andTb hc] at h
          exact rF rfl rfl rfl <| rY rfl rfl rfl <| rL rfl rfl .p0 rfl rfl <| rY rfl rfl rfl <| rM rfl rfl <| rY rfl rfl rfl <| ARun.qv (q_addw rfl rfl) rfl <| rY rfl rfl rfl <| ARun.qv (q_neq rfl rfl) rfl <| rT rfl rfl rfl <| rN <| ATodo.stop <| ImpX.lq [0] ⟨decide (p0x0.Kind ≠ (w64 (n3 + (1 : Int)))), h, rfl⟩ rfl rfl
        · rw [andFb hc] at h
          exact rG rfl rfl rfl rfl <| rG rfl rfl rfl rfl <| rG rfl rfl rfl rfl <| rG rfl rfl rfl rfl <| rE rfl rfl rfl <| rN <| ATodo.stop <| ImpX.lq [0] ⟨false, h, rfl⟩ rfl rfl
      · rintro σ' ⟨c5, h, rfl⟩
        unfold Q_RightValue_j1 at h
        refine ATodo.cond rfl (fun hc => ?_) (fun hc => ?_)
        · refine have h := iteT hc h; tSR <| rA rfl rfl <| rN <| ATodo.ret <| have h := outL h hA1; ?_
          obtain rfl := Option.some.inj h
          exact ImpX.here ⟨_, .cons (.tmp _ _ rfl) .nil, rfl⟩
        · refine have h := iteFb hc h; tK <| ATodo.blk <| tR <| ARun.qv (q_addw rfl rfl) rfl <| rM rfl rfl <| rN <| ATodo.stop <| ?_
          obtain rfl := Option.some.inj h
          exact hJ1 _ _ rfl <| ImpX.lq [0] rfl rfl rfl
    · refine have h := iteF hc h; ATodo.exit rfl <| have h := outL h hA1; ?_
      unfold Q_RightValue_k3 at h
      refine tS <| ATodo.cut (fun σ' => ∃ (c6 : Bool), Q_RightValue_j2 c6 = some r ∧ σ' = ⟨50, [(2, .bool c6)], []⟩) ?_ ?_
      · refine tR <| rF rfl rfl rfl <| rL rfl rfl .p0 rfl rfl <| r_callp rfl (Q_in_c rfl) (CoL.refl _) rfl <| rM rfl rfl <| ARun.guard rfl rfl rfl (fun hc => ?_) (fun hc => ?_)
        · refine have h := iteT hc h; rF rfl rfl rfl <| rY rfl rfl rfl <| rL rfl rfl .p0 rfl rfl <| rY rfl rfl rfl <| r_callp rfl (Q_in_c rfl) (CoL.refl _) rfl <| rT rfl rfl rfl <| rM rfl rfl <| ARun.guard rfl rfl rfl (fun hc => ?_) (fun hc => ?_)
          · refine have h := iteT hc h; rF rfl rfl rfl <| rY rfl rfl rfl <| rL rfl rfl .p0 rfl rfl <| rY rfl rfl rfl <| bndE h fun v7 e2 h => r_callp rfl (utf8_ValidString_c e2) (CoL.refl _) rfl <| rT rfl rfl rfl <| rM rfl rfl <| ARun.guard rfl rfl rfl (fun hc => ?_) (fun hc => ?_)
            · rw [andTb hc] at h
              exact rF rfl rfl rfl <| rY rfl rfl rfl <| rL rfl rfl .p0 rfl rfl <| rY rfl rfl rfl <| ARun.qv (q_len_str rfl) rfl <| rY rfl rfl rfl <| ARun.qv (q_leq rfl rfl) rfl <| rT rfl rfl rfl <| rA rfl rfl <| rN <| ATodo.stop <| ImpX.lq [] ⟨decide ((p0x0.Words.length : Int) ≤ (100 : Int)), h, rfl⟩ rfl rfl
            · rw [andFb hc] at h
              exact rG rfl rfl rfl rfl <| rG rfl rfl rfl rfl <| rG rfl rfl rfl rfl <| rE rfl rfl rfl <| rA rfl rfl <| rN <| ATodo.stop <| ImpX.lq [] ⟨false, h, rfl⟩ rfl rfl
          · exact have h := iteFb hc h; rG rfl rfl rfl rfl <| rG rfl rfl rfl rfl <| rE rfl rfl rfl <| rM rfl rfl <| rG rfl rfl rfl rfl <| rG rfl rfl rfl rfl <| rG rfl rfl rfl rfl <| rG rfl rfl rfl rfl <| rE rfl rfl rfl <| rA rfl rfl <| rN <| ATodo.stop <| ImpX.lq [] ⟨false, h, rfl⟩ rfl rfl
        · exact have h := iteFb hc h; rG rfl rfl rfl rfl <| rG rfl rfl rfl rfl <| rE rfl rfl rfl <| rM rfl rfl <| rG rfl rfl rfl rfl <| rG rfl rfl rfl rfl <| rG rfl rfl rfl rfl <| rE rfl rfl rfl <| rM rfl rfl <| rG rfl rfl rfl rfl <| rG rfl rfl rfl rfl <| rG rfl rfl rfl rfl <| rG rfl rfl rfl rfl <| rE rfl rfl rfl <| rA rfl rfl <| rN <| ATodo.stop <| ImpX.lq [] ⟨false, h, rfl⟩ rfl rfl
      · rintro σ' ⟨c6, h, rfl⟩
        unfold Q_RightValue_j2 at h
        refine ATodo.ret <| ?_
        obtain rfl := Option.some.inj h
        exact ImpX.here ⟨_, .cons (.tmp _ _ rfl) .nil, rfl⟩

set_option maxHeartbeats 4000000 in
theorem Q_isFault_c {p0x0 : Query} {r : Int} (h : Q_isFault p0x0 = some r) : Pu Tryz.prog 180 [.agg [I p0x0.Kind, .str p0x0.Field, .str p0x0.Op, I p0x0.Value.Kind, .bool p0x0.Value.Flag, I p0x0.Value.Number, .str p0x0.Value.Words, I p0x0.Version.Major, I p0x0.Version.Minor, I p0x0.Version.Patch, .list 11 (p0x0.Kids.map Query.av)]] (I r) := by
  unfold Q_isFault at h
  refine ACall.bodyN Tryz.func180 rfl Tryz.ntmps180 Tryz.results180 rfl rfl ?_
  refine tSR <| n_box rfl rfl rfl rfl fun b1 => rA rfl rfl <| rN <| tSR <| rF rfl rfl rfl <| rL rfl rfl .p0 rfl rfl <| ARun.qv (q_eql rfl rfl) rfl <| rA rfl rfl <| rN <| tS <| tSR <| rF rfl rfl rfl <| rL rfl rfl .p0 rfl rfl <| rM rfl rfl <| bndE h fun v2 e1 h => r_callp rfl (Q_FieldRight_c e1) (CoL.refl _) rfl <| ARun.qv (q_not rfl) rfl <| rN <| ATodo.cond rfl (fun hc => ?_) (fun hc => ?_)
  · refine have h := iteT hc h; tSR <| rA rfl rfl <| rN <| ATodo.ret <| ?_
    obtain rfl := Option.some.inj h
    exact ImpX.here ⟨_, .cons (.tmp _ _ rfl) .nil, rfl⟩
  · refine have h := iteFb hc h; tK <| tS <| tSR <| rM rfl rfl <| rN <| ATodo.cond_d rfl (fun hc => ?_) (fun hc => ?_)
    · refine have h := iteT hc h; tSR <| rA rfl rfl <| rN <| ATodo.ret <| ?_
      obtain rfl := Option.some.inj h
      exact ImpX.here ⟨_, .cons (.tmp _ _ rfl) .nil, rfl⟩
    · refine have h := iteF hc h; tK <| tS <| ATodo.cut (fun σ' => ∃ (c3 : Bool), Q_isFault_j1 p0x0 c3 = some r ∧ σ' = ⟨82, [(1, .ptr b1 0), (4, .bool c3)], [(b1, .cells [I p0x0.Kind, .str p0x0.Field, .str p0x0.Op, I p0x0.Value.Kind, .bool p0x0.Value.Flag, I p0x0.Value.Number, .str p0x0.Value.Words, I p0x0.Version.Major, I p0x0.Version.Minor, I p0x0.Version.Patch, .list 11 (p0x0.Kids.map Query.av)])]⟩) ?_ ?_
      · refine tR <| rF rfl rfl rfl <| rL rfl rfl .p0 rfl rfl <| ARun.qv (q_seq rfl rfl) rfl <| rM rfl rfl <| ARun.guard_df rfl rfl rfl (fun hc => ?_) (fun hc => ?_)
        · rw [orFd hc] at h
          exact rF rfl rfl rfl <| rY rfl rfl rfl <| rL rfl rfl .p0 rfl rfl <| rY rfl rfl rfl <| ARun.qv (q_seq rfl rfl) rfl <| rE rfl rfl rfl <| rA rfl rfl <| rN <| ATodo.stop <| ImpX.lq [0] ⟨decide (p0x0.Op = ([33, 61] : Str)), h, rfl⟩ rfl rfl
        · rw [orTd hc] at h
          exact rG rfl rfl rfl rfl <| rG rfl rfl rfl rfl <| rT rfl rfl rfl <| rA rfl rfl <| rN <| ATodo.stop <| ImpX.lq [0] ⟨true, h, rfl⟩ rfl rfl
      · rintro σ' ⟨c3, h, rfl⟩
        unfold Q_isFault_j1 at h
        refine tS <| tSR <| rF rfl rfl rfl <| rL rfl rfl .p0 rfl rfl <| ARun.qv (q_seq rfl rfl) rfl <| rA rfl rfl <| rN <| ATodo.block <| tS <| ATodo.regionM (id := 8) (A := [0, 0, 2, 7, 15, 31]) 6 mixed rfl (by kernel_rfl) (by kernel_rfl) <| AM.callp rfl (Q_Ops_c rfl) (CoL.refl _) rfl <| AM.qv (n_field_ptr rfl rfl) rfl <| AM.qv (q_load_ptr rfl rfl .p0 rfl) rfl <| bndE h fun v4 e2 h => AM.callp rfl (slices_Contains_string_string_c e2) (CoL.refl _) rfl <| AM.qv (q_not rfl) rfl <| AM.qv (q_assign rfl) rfl <| AM.nil <| rN <| ATodo.cond rfl (fun hc => ?_) (fun hc => ?_)
        · refine have h := iteT hc h; tSR <| rA rfl rfl <| rN <| ATodo.ret <| ?_
          obtain rfl := Option.some.inj h
          exact ImpX.here ⟨_, .cons (.tmp _ _ rfl) .nil, rfl⟩
        · refine have h := iteFb hc h; tS <| ATodo.cut (fun σ' => ∃ (c5 : Bool), Q_isFault_j2 p0x0 c3 c5 = some r ∧ σ' = ⟨82, [(1, .ptr b1 0), (4, .bool c3), (5, .bool (decide (p0x0.Field = ([102, 105, 114, 109, 119, 97, 114, 101] : Str)))), (32, .bool c5)], [(b1, .cells [I p0x0.Kind, .str p0x0.Field, .str p0x0.Op, I p0x0.Value.Kind, .bool p0x0.Value.Flag, I p0x0.Value.Number, .str p0x0.Value.Words, I p0x0.Version.Major, I p0x0.Version.Minor, I p0x0.Version.Patch, .list 11 (p0x0.Kids.map Query.av)])]⟩) ?_ ?_
          · refine tR <| rM rfl rfl <| rM rfl rfl <| ARun.guard_dt rfl rfl rfl (fun hc => ?_) (fun hc => ?_)
            · rw [andTd hc] at h
              exact rF rfl rfl rfl <| rY rfl rfl rfl <| ARun.qv (n_load_ptr_part rfl rfl .p0 rfl rfl) rfl <| rY rfl rfl rfl <| ARun.qv (n_build rfl rfl rfl rfl rfl) rfl <| rY rfl rfl rfl <| ARun.qv (t_tne (g := ValueS.av) (X := p0x0.Value) (Y := (⟨(0 : Int), false, (0 : Int), []⟩ : ValueS)) rfl rfl rfl rfl rfl) rfl <| rT rfl rfl rfl <| rA rfl rfl <| rN <| ATodo.stop <| ImpX.lq [0] ⟨decide (p0x0.Value ≠ (⟨(0 : Int), false, (0 : Int), []⟩ : ValueS)), h, rfl⟩ rfl rfl
            · rw [andFd hc] at h
              exact rG rfl rfl rfl rfl <| rG rfl rfl rfl rfl <| rG rfl rfl rfl rfl <| rE rfl rfl rfl <| rA rfl rfl <| rN <| ATodo.stop <| ImpX.lq [0] ⟨false, h, rfl⟩ rfl rfl
          · rintro σ' ⟨c5, h, rfl⟩
            unfold Q_isFault_j2 at h
            refine ATodo.cond rfl (fun hc => ?_) (fun hc => ?_)
            · refine have h := iteT hc h; tSR <| rA rfl rfl <| rN <| ATodo.ret <| ?_
              obtain rfl := Option.some.inj h
              exact ImpX.here ⟨_, .cons (.tmp _ _ rfl) .nil, rfl⟩
            · refine have h := iteFb hc h; tS <| ATodo.cut (fun σ' => ∃ (c6 : Bool), Q_isFault_j3 p0x0 c3 c6 = some r ∧ σ' = ⟨82, [(1, .ptr b1 0), (4, .bool c3), (5, .bool (decide (p0x0.Field = ([102, 105, 114, 109, 119, 97, 114, 101] : Str)))), (40, .bool c6)], [(b1, .cells [I p0x0.Kind, .str p0x0.Field, .str p0x0.Op, I p0x0.Value.Kind, .bool p0x0.Value.Flag, I p0x0.Value.Number, .str p0x0.Value.Words, I p0x0.Version.Major, I p0x0.Version.Minor, I p0x0.Version.Patch, .list 11 (p0x0.Kids.map Query.av)])]⟩) ?_ ?_
              · refine tR <| rM rfl rfl <| rM rfl rfl <| ARun.guard_dt rfl rfl rfl (fun hc => ?_) (fun hc => ?_)
                · rw [andTd hc] at h
                  exact rF rfl rfl rfl <| rY rfl rfl rfl <| ARun.qv (n_load_ptr_part rfl rfl .p0 rfl rfl) rfl <| rY rfl rfl rfl <| r_callp rfl (Q_versionRight_c rfl) (CoL.refl _) rfl <| rY rfl rfl rfl <| ARun.qv (q_not rfl) rfl <| rT rfl rfl rfl <| rA rfl rfl <| rN <| ATodo.stop <| ImpX.lq [0] ⟨!(Q_versionRight p0x0.Version), h, rfl⟩ rfl rfl
                · rw [andFd hc] at h
                  exact rG rfl rfl rfl rfl <| rG rfl rfl rfl rfl <| rG rfl rfl rfl rfl <| rE rfl rfl rfl <| rA rfl rfl <| rN <| ATodo.stop <| ImpX.lq [0] ⟨false, h, rfl⟩ rfl rfl
              · rintro σ' ⟨c6, h, rfl⟩
                unfold Q_isFault_j3 at h
                refine ATodo.cond rfl (fun hc => ?_) (fun hc => ?_)
                · refine have h := iteT hc h; tSR <| rA rfl rfl <| rN <| ATodo.ret <| ?_
                  obtain rfl := Option.some.inj h
                  exact ImpX.here ⟨_, .cons (.tmp _ _ rfl) .nil, rfl⟩
                · refine have h := iteFb hc h; tSR <| rM rfl rfl <| rA rfl rfl <| rN <| ATodo.cond_d rfl (fun hc => ?_) (fun hc => ?_)
                  · refine have h := iteT hc h; tSR <| rA rfl rfl <| rN <| ATodo.ret <| ?_
                    obtain rfl := Option.some.inj h
                    exact ImpX.here ⟨_, .cons (.tmp _ _ rfl) .nil, rfl⟩
                  · refine have h := iteF hc h; tS <| tSR <| rF rfl rfl rfl <| ARun.qv (n_load_ptr_part rfl rfl .p0 rfl rfl) rfl <| ARun.qv (n_build rfl rfl rfl rfl rfl) rfl <| ARun.qv (t_tne (g := Version.av) (X := p0x0.Version) (Y := (⟨(0 : Int), (0 : Int), (0 : Int)⟩ : Version)) rfl rfl rfl rfl rfl) rfl <| rA rfl rfl <| rN <| ATodo.cut (fun σ' => ∃ (c7 : Bool), Q_isFault_j4 p0x0 c3 c7 = some r ∧ σ' = ⟨82, [(1, .ptr b1 0), (4, .bool c3), (50, .bool c7)], [(b1, .cells [I p0x0.Kind, .str p0x0.Field, .str p0x0.Op, I p0x0.Value.Kind, .bool p0x0.Value.Flag, I p0x0.Value.Number, .str p0x0.Value.Words, I p0x0.Version.Major, I p0x0.Version.Minor, I p0x0.Version.Patch, .list 11 (p0x0.Kids.map Query.av)])]⟩) ?_ ?_
                    · refine ATodo.cond_d rfl (fun hc => ?_) (fun hc => ?_)
                      · exact have h := iteT hc h; tK <| ATodo.stop <| ImpX.lq [0] ⟨decide (p0x0.Version ≠ (⟨(0 : Int), (0 : Int), (0 : Int)⟩ : Version)), h, rfl⟩ rfl rfl
                      · refine have h := iteF hc h; tSR <| rF rfl rfl rfl <| ARun.qv (n_load_ptr_part rfl rfl .p0 rfl rfl) rfl <| bndE h fun v8 e3 h => r_callp rfl (Q_RightValue_c e3) (CoL.refl _) rfl <| ARun.qv (q_not rfl) rfl <| rA rfl rfl <| rN <| ATodo.cut (fun σ' => ∃ (c9 : Bool), Q_isFault_j5 p0x0 c3 c9 = some r ∧ σ' = ⟨82, [(1, .ptr b1 0), (4, .bool c3), (50, .bool c9)], [(b1, .cells [I p0x0.Kind, .str p0x0.Field, .str p0x0.Op, I p0x0.Value.Kind, .bool p0x0.Value.Flag, I p0x0.Value.Number, .str p0x0.Value.Words, I p0x0.Version.Major, I p0x0.Version.Minor, I p0x0.Version.Patch, .list 11 (p0x0.Kids.map Query.av)])]⟩) ?_ ?_
                        · refine ATodo.cond rfl (fun hc => ?_) (fun hc => ?_)
                          · exact have h := iteT hc h; tK <| ATodo.stop <| ImpX.lq [0] ⟨!v8, h, rfl⟩ rfl rfl
                          · exact have h := iteFb hc h; tR <| rF rfl rfl rfl <| rF rfl rfl rfl <| rL rfl rfl .p0 rfl rfl <| ARun.qv (q_eql rfl rfl) rfl <| rA rfl rfl <| rN <| ATodo.stop <| ImpX.lq [0] ⟨decide (p0x0.Value.Kind = (0 : Int)), h, rfl⟩ rfl rfl
                        · rintro σ' ⟨c9, h, rfl⟩
                          unfold Q_isFault_j5 at h
                          exact ATodo.stop <| ImpX.lq [0] ⟨c9, h, rfl⟩ rfl rfl
                    · rintro σ' ⟨c7, h, rfl⟩
                      unfold Q_isFault_j4 at h
                      refine ATodo.cond rfl (fun hc => ?_) (fun hc => ?_)
                      · refine have h := iteT hc h; tSR <| rA rfl rfl <| rN <| ATodo.ret <| ?_
                        obtain rfl := Option.some.inj h
                        exact ImpX.here ⟨_, .cons (.tmp _ _ rfl) .nil, rfl⟩
                      · refine have h := iteFb hc h; tS <| tS <| ATodo.cut (fun σ' => ∃ (c10 : Bool), Q_isFault_j6 p0x0 c3 c10 = some r ∧ σ' = ⟨82, [(1, .ptr b1 0), (4, .bool c3), (63, .bool c10)], [(b1, .cells [I p0x0.Kind, .str p0x0.Field, .str p0x0.Op, I p0x0.Value.Kind, .bool p0x0.Value.Flag, I p0x0.Value.Number, .str p0x0.Value.Words, I p0x0.Version.Major, I p0x0.Version.Minor, I p0x0.Version.Patch, .list 11 (p0x0.Kids.map Query.av)])]⟩) ?_ ?_
                        · refine tR <| rF rfl rfl rfl <| rF rfl rfl rfl <| rL rfl rfl .p0 rfl rfl <| ARun.qv (q_neq rfl rfl) rfl <| rM rfl rfl <| ARun.guard_dt rfl rfl rfl (fun hc => ?_) (fun hc => ?_)
                          · exact have h := iteT hc h; rF rfl rfl rfl <| rY rfl rfl rfl <| rL rfl rfl .p0 rfl rfl <| rY rfl rfl rfl <| bndE h fun v11 e4 h => r_callp rfl (strings_HasPrefix_c e4) (CoL.refl _) rfl <| rY rfl rfl rfl <| ARun.qv (q_not rfl) rfl <| rT rfl rfl rfl <| rA rfl rfl <| rN <| ATodo.stop <| ImpX.lq [0] ⟨!v11, h, rfl⟩ rfl rfl
                          · exact have h := iteF hc h; rG rfl rfl rfl rfl <| rG rfl rfl rfl rfl <| rG rfl rfl rfl rfl <| rE rfl rfl rfl <| rA rfl rfl <| rN <| ATodo.stop <| ImpX.lq [0] ⟨false, h, rfl⟩ rfl rfl
                        · rintro σ' ⟨c10, h, rfl⟩
                          unfold Q_isFault_j6 at h
                          refine ATodo.cut (fun σ' => ∃ (c12 : Bool), Q_isFault_j7 c12 = some r ∧ σ' = ⟨82, [(63, .bool c12)], []⟩) ?_ ?_
                          · refine ATodo.cond rfl (fun hc => ?_) (fun hc => ?_)
                            · exact have h := iteT hc h; tK <| ATodo.stop <| ImpX.lq [] ⟨c10, h, rfl⟩ rfl rfl
                            · refine have h := iteFb hc h; ATodo.cut (fun σ' => ∃ (c13 : Bool), Q_isFault_j8 c13 = some r ∧ σ' = ⟨82, [(63, .bool c13)], []⟩) ?_ ?_
                              · refine tR <| rF rfl rfl rfl <| rF rfl rfl rfl <| rL rfl rfl .p0 rfl rfl <| ARun.qv (q_neq rfl rfl) rfl <| rM rfl rfl <| ARun.guard_dt rfl rfl rfl (fun hc => ?_) (fun hc => ?_)
                                · rw [andTd hc] at h
                                  exact rM rfl rfl <| rY rfl rfl rfl <| ARun.qv (q_not rfl) rfl <| rT rfl rfl rfl <| rA rfl rfl <| rN <| ATodo.stop <| ImpX.lq [] ⟨!c3, h, rfl⟩ rfl rfl
                                · rw [andFd hc] at h
                                  exact rG rfl rfl rfl rfl <| rE rfl rfl rfl <| rA rfl rfl <| rN <| ATodo.stop <| ImpX.lq [] ⟨false, h, rfl⟩ rfl rfl
                              · rintro σ' ⟨c13, h, rfl⟩
                                unfold Q_isFault_j8 at h
                                exact ATodo.stop <| ImpX.lq [] ⟨c13, h, rfl⟩ rfl rfl
                          · rintro σ' ⟨c12, h, rfl⟩
                            unfold Q_isFault_j7 at h
                            refine ATodo.cond rfl (fun hc => ?_) (fun hc => ?_)
                            · refine have h := iteT hc h; tSR <| rA rfl rfl <| rN <| ATodo.ret <| ?_
                              obtain rfl := Option.some.inj h
                              exact ImpX.here ⟨_, .cons (.tmp _ _ rfl) .nil, rfl⟩
                            · refine have h := iteFb hc h; tK <| ATodo.blk <| tSR <| rA rfl rfl <| rN <| ATodo.ret <| ?_
                              obtain rfl := Option.some.inj h
                              exact ImpX.here ⟨_, .cons (.tmp _ _ rfl) .nil, rfl⟩

set_option maxHeartbeats 4000000 in
theorem Q_oneQuery_bd_c {self : Query → Option Int} (self_h : ∀ {p0x0 : Query} {r : Int}, self p0x0 = some r → Pu Tryz.prog 122 [.agg [I p0x0.Kind, .str p0x0.Field, .str p0x0.Op, I p0x0.Value.Kind, .bool p0x0.Value.Flag, I p0x0.Value.Number, .str p0x0.Value.Words, I p0x0.Version.Major, I p0x0.Version.Minor, I p0x0.Version.Patch, .list 11 (p0x0.Kids.map Query.av)]] (I r)) {p0x0 : Query} {r : Int} (h : Q_oneQuery_bd self p0x0 = some r) : Pu Tryz.prog 122 [.agg [I p0x0.Kind, .str p0x0.Field, .str p0x0.Op, I p0x0.Value.Kind, .bool p0x0.Value.Flag, I p0x0.Value.Number, .str p0x0.Value.Words, I p0x0.Version.Major, I p0x0.Version.Minor, I p0x0.Version.Patch, .list 11 (p0x0.Kids.map Query.av)]] (I r) := by
  unfold Q_oneQuery_bd at h
  refine ACall.bodyN Tryz.func122 rfl Tryz.ntmps122 Tryz.results122 rfl rfl ?_
  refine tSR <| n_box rfl rfl rfl rfl fun b1 => rA rfl rfl <| rN <| tS <| tSR <| rF rfl rfl rfl <| rL rfl rfl .p0 rfl rfl <| r_callp rfl (Q_in_c rfl) (CoL.refl _) rfl <| ARun.qv (q_not rfl) rfl <| rN <| ATodo.cond rfl (fun hc => ?_) (fun hc => ?_)
  · refine have h := iteT hc h; tSR <| rA rfl rfl <| rN <| ATodo.ret <| ?_
    obtain rfl := Option.some.inj h
    exact ImpX.here ⟨_, .cons (.tmp _ _ rfl) .nil, rfl⟩
  · refine have h := iteFb hc h; tK <| tSR <| rF rfl rfl rfl <| rL rfl rfl .p0 rfl rfl <| ARun.qv (t_len rfl) rfl <| rA rfl rfl <| rN <| tS <| ATodo.cut (fun σ' => ∃ (c2 : Bool), Q_oneQuery_j1 self p0x0 c2 = some r ∧ σ' = ⟨98, [(1, .ptr b1 0), (3, I (p0x0.Kids.length : Int)), (4, .bool c2)], [(b1, .cells [I p0x0.Kind, .str p0x0.Field, .str p0x0.Op, I p0x0.Value.Kind, .bool p0x0.Value.Flag, I p0x0.Value.Number, .str p0x0.Value.Words, I p0x0.Version.Major, I p0x0.Version.Minor, I p0x0.Version.Patch, .list 11 (p0x0.Kids.map Query.av)])]⟩) ?_ ?_
    · refine tR <| rF rfl rfl rfl <| rL rfl rfl .p0 rfl rfl <| ARun.qv (q_eql rfl rfl) rfl <| rM rfl rfl <| ARun.guard_df rfl rfl rfl (fun hc => ?_) (fun hc => ?_)
      · rw [orFd hc] at h
        exact rF rfl rfl rfl <| rY rfl rfl rfl <| rL rfl rfl .p0 rfl rfl <| rY rfl rfl rfl <| ARun.qv (q_eql rfl rfl) rfl <| rE rfl rfl rfl <| rA rfl rfl <| rN <| ATodo.stop <| ImpX.lq [0] ⟨decide (p0x0.Kind = (5 : Int)), h, rfl⟩ rfl rfl
      · rw [orTd hc] at h
        exact rG rfl rfl rfl rfl <| rG rfl rfl rfl rfl <| rT rfl rfl rfl <| rA rfl rfl <| rN <| ATodo.stop <| ImpX.lq [0] ⟨true, h, rfl⟩ rfl rfl
    · rintro σ' ⟨c2, h, rfl⟩
      unfold Q_oneQuery_j1 at h
      refine tS <| ATodo.block <| tS <| tS <| ATodo.cut (fun σ' => ∃ (c3 : Bool), Q_oneQuery_j2 self p0x0 c2 c3 = some r ∧ σ' = ⟨98, [(1, .ptr b1 0), (3, I (p0x0.Kids.length : Int)), (4, .bool c2), (23, .bool c3)], [(b1, .cells [I p0x0.Kind, .str p0x0.Field, .str p0x0.Op, I p0x0.Value.Kind, .bool p0x0.Value.Flag, I p0x0.Value.Number, .str p0x0.Value.Words, I p0x0.Version.Major, I p0x0.Version.Minor, I p0x0.Version.Patch, .list 11 (p0x0.Kids.map Query.av)])]⟩) ?_ ?_
      · refine tR <| rF rfl rfl rfl <| rL rfl rfl .p0 rfl rfl <| ARun.qv (q_leq rfl rfl) rfl <| rM rfl rfl <| ARun.guard_dt rfl rfl rfl (fun hc => ?_) (fun hc => ?_)
        · rw [andTd hc] at h
          exact rM rfl rfl <| rY rfl rfl rfl <| ARun.qv (q_gtr rfl rfl) rfl <| rT rfl rfl rfl <| rA rfl rfl <| rN <| ATodo.stop <| ImpX.lq [0] ⟨decide ((0 : Int) < (p0x0.Kids.length : Int)), h, rfl⟩ rfl rfl
        · rw [andFd hc] at h
          exact rG rfl rfl rfl rfl <| rE rfl rfl rfl <| rA rfl rfl <| rN <| ATodo.stop <| ImpX.lq [0] ⟨false, h, rfl⟩ rfl rfl
      · rintro σ' ⟨c3, h, rfl⟩
        unfold Q_oneQuery_j2 at h
        refine ATodo.cut (fun σ' => ∃ (c4 : Bool), Q_oneQuery_j3 self p0x0 c2 c4 = some r ∧ σ' = ⟨98, [(1, .ptr b1 0), (4, .bool c2), (23, .bool c4)], [(b1, .cells [I p0x0.Kind, .str p0x0.Field, .str p0x0.Op, I p0x0.Value.Kind, .bool p0x0.Value.Flag, I p0x0.Value.Number, .str p0x0.Value.Words, I p0x0.Version.Major, I p0x0.Version.Minor, I p0x0.Version.Patch, .list 11 (p0x0.Kids.map Query.av)])]⟩) ?_ ?_
        · refine ATodo.cond rfl (fun hc => ?_) (fun hc => ?_)
          · exact have h := iteT hc h; tK <| ATodo.stop <| ImpX.lq [0] ⟨c3, h, rfl⟩ rfl rfl
          · refine have h := iteFb hc h; tS <| ATodo.cut (fun σ' => ∃ (c5 : Bool), Q_oneQuery_j4 self p0x0 c2 c5 = some r ∧ σ' = ⟨98, [(1, .ptr b1 0), (3, I (p0x0.Kids.length : Int)), (4, .bool c2), (23, .bool c5)], [(b1, .cells [I p0x0.Kind, .str p0x0.Field, .str p0x0.Op, I p0x0.Value.Kind, .bool p0x0.Value.Flag, I p0x0.Value.Number, .str p0x0.Value.Words, I p0x0.Version.Major, I p0x0.Version.Minor, I p0x0.Version.Patch, .list 11 (p0x0.Kids.map Query.av)])]⟩) ?_ ?_
            · refine tR <| rF rfl rfl rfl <| rL rfl rfl .p0 rfl rfl <| ARun.qv (q_eql rfl rfl) rfl <| rM rfl rfl <| ARun.guard_dt rfl rfl rfl (fun hc => ?_) (fun hc => ?_)
              · rw [andTd hc] at h
                exact rM rfl rfl <| rY rfl rfl rfl <| ARun.qv (q_neq rfl rfl) rfl <| rT rfl rfl rfl <| rA rfl rfl <| rN <| ATodo.stop <| ImpX.lq [0] ⟨decide ((p0x0.Kids.length : Int) ≠ (1 : Int)), h, rfl⟩ rfl rfl
              · rw [andFd hc] at h
                exact rG rfl rfl rfl rfl <| rE rfl rfl rfl <| rA rfl rfl <| rN <| ATodo.stop <| ImpX.lq [0] ⟨false, h, rfl⟩ rfl rfl
            · rintro σ' ⟨c5, h, rfl⟩
              unfold Q_oneQuery_j4 at h
              refine ATodo.cut (fun σ' => ∃ (c6 : Bool), Q_oneQuery_j5 self p0x0 c2 c6 = some r ∧ σ' = ⟨98, [(1, .ptr b1 0), (4, .bool c2), (23, .bool c6)], [(b1, .cells [I p0x0.Kind, .str p0x0.Field, .str p0x0.Op, I p0x0.Value.Kind, .bool p0x0.Value.Flag, I p0x0.Value.Number, .str p0x0.Value.Words, I p0x0.Version.Major, I p0x0.Version.Minor, I p0x0.Version.Patch, .list 11 (p0x0.Kids.map Query.av)])]⟩) ?_ ?_
              · refine ATodo.cond rfl (fun hc => ?_) (fun hc => ?_)
                · exact have h := iteT hc h; tK <| ATodo.stop <| ImpX.lq [0] ⟨c5, h, rfl⟩ rfl rfl
                · refine have h := iteFb hc h; ATodo.cut (fun σ' => ∃ (c7 : Bool), Q_oneQuery_j6 self p0x0 c2 c7 = some r ∧ σ' = ⟨98, [(1, .ptr b1 0), (4, .bool c2), (23, .bool c7)], [(b1, .cells [I p0x0.Kind, .str p0x0.Field, .str p0x0.Op, I p0x0.Value.Kind, .bool p0x0.Value.Flag, I p0x0.Value.Number, .str p0x0.Value.Words, I p0x0.Version.Major, I p0x0.Version.Minor, I p0x0.Version.Patch, .list 11 (p0x0.Kids.map Query.av)])]⟩) ?_ ?_
                  · refine tR <| rM rfl rfl <| rM rfl rfl <| ARun.guard rfl rfl rfl (fun hc => ?_) (fun hc => ?_)
                    · rw [andTb hc] at h
                      exact rM rfl rfl <| rY rfl rfl rfl <| ARun.qv (q_lss rfl rfl) rfl <| rT rfl rfl rfl <| rA rfl rfl <| rN <| ATodo.stop <| ImpX.lq [0] ⟨decide ((p0x0.Kids.length : Int) < (2 : Int)), h, rfl⟩ rfl rfl
                    · rw [andFb hc] at h
                      exact rG rfl rfl rfl rfl <| rE rfl rfl rfl <| rA rfl rfl <| rN <| ATodo.stop <| ImpX.lq [0] ⟨false, h, rfl⟩ rfl rfl
                  · rintro σ' ⟨c7, h, rfl⟩
                    unfold Q_oneQuery_j6 at h
                    exact ATodo.stop <| ImpX.lq [0] ⟨c7, h, rfl⟩ rfl rfl
              · rintro σ' ⟨c6, h, rfl⟩
                unfold Q_oneQuery_j5 at h
                exact ATodo.stop <| ImpX.lq [0] ⟨c6, h, rfl⟩ rfl rfl
        · rintro σ' ⟨c4, h, rfl⟩
          unfold Q_oneQuery_j3 at h
          refine ATodo.cond rfl (fun hc => ?_) (fun hc => ?_)
          · refine have h := iteT hc h; tSR <| rA rfl rfl <| rN <| ATodo.ret <| ?_
            obtain rfl := Option.some.inj h
            exact ImpX.here ⟨_, .cons (.tmp _ _ rfl) .nil, rfl⟩
          · refine have h := iteFb hc h; tS <| ATodo.cut (fun σ' => ∃ (c8 : Bool), Q_oneQuery_j7 self p0x0 c8 = some r ∧ σ' = ⟨98, [(1, .ptr b1 0), (43, .bool c8)], [(b1, .cells [I p0x0.Kind, .str p0x0.Field, .str p0x0.Op, I p0x0.Value.Kind, .bool p0x0.Value.Flag, I p0x0.Value.Number, .str p0x0.Value.Words, I p0x0.Version.Major, I p0x0.Version.Minor, I p0x0.Version.Patch, .list 11 (p0x0.Kids.map Query.av)])]⟩) ?_ ?_
            · refine tR <| rM rfl rfl <| rM rfl rfl <| ARun.guard rfl rfl rfl (fun hc => ?_) (fun hc => ?_)
              · exact have h := iteT hc h; rF rfl rfl rfl <| rY rfl rfl rfl <| rL rfl rfl .p0 rfl rfl <| rY rfl rfl rfl <| ARun.qv (q_makeFunc rfl) rfl <| rY rfl rfl rfl <| bndE h fun v9 e1 h => r_callpB rfl (slices_ContainsFunc_Query_Query_c (fun e => Q_oneQuery_1x_c (Option.some.inj e)) e1) (.cons (.co (.refl _)) (.cons (.funcL _ _ _ (.cons (.boxL _ _ _ .p0 (.cons (.co (.refl _)) (.cons (.co (.refl _)) (.cons (.co (.refl _)) (.cons (.co (.refl _)) (.cons (.co (.refl _)) (.cons (.co (.refl _)) (.cons (.co (.refl _)) (.cons (.co (.refl _)) (.cons (.co (.refl _)) (.cons (.co (.refl _)) (.cons (.co (.refl _)) .nil)))))))))))) .nil)) .nil)) rfl rfl <| rT rfl rfl rfl <| rA rfl rfl <| rN <| ATodo.stop <| ImpX.lq [0] ⟨v9, h, rfl⟩ rfl rfl
              · exact have h := iteFb hc h; rG rfl rfl rfl rfl <| rG rfl rfl rfl rfl <| rG rfl rfl rfl rfl <| rE rfl rfl rfl <| rA rfl rfl <| rN <| ATodo.stop <| ImpX.lq [0] ⟨false, h, rfl⟩ rfl rfl
            · rintro σ' ⟨c8, h, rfl⟩
              unfold Q_oneQuery_j7 at h
              refine ATodo.cond rfl (fun hc => ?_) (fun hc => ?_)
              · refine have h := iteT hc h; tSR <| rA rfl rfl <| rN <| ATodo.ret <| ?_
                obtain rfl := Option.some.inj h
                exact ImpX.here ⟨_, .cons (.tmp _ _ rfl) .nil, rfl⟩
              · refine have h := iteFb hc h; tS <| tS <| ATodo.cut (fun σ' => ∃ (c10 : Bool), Q_oneQuery_j8 self p0x0 c10 = some r ∧ σ' = ⟨98, [(1, .ptr b1 0), (51, .bool c10)], [(b1, .cells [I p0x0.Kind, .str p0x0.Field, .str p0x0.Op, I p0x0.Value.Kind, .bool p0x0.Value.Flag, I p0x0.Value.Number, .str p0x0.Value.Words, I p0x0.Version.Major, I p0x0.Version.Minor, I p0x0.Version.Patch, .list 11 (p0x0.Kids.map Query.av)])]⟩) ?_ ?_
                · refine tR <| rF rfl rfl rfl <| rL rfl rfl .p0 rfl rfl <| ARun.qv (q_neq rfl rfl) rfl <| rM rfl rfl <| ARun.guard_dt rfl rfl rfl (fun hc => ?_) (fun hc => ?_)
                  · rw [andTd hc] at h
                    refine rF rfl rfl rfl <| rY rfl rfl rfl <| rL rfl rfl .p0 rfl rfl <| rY rfl rfl rfl <| ARun.qv (q_sne rfl rfl) rfl <| rY rfl rfl rfl <| rM rfl rfl <| ARun.guard_df rfl rfl rfl (fun hc => ?_) (fun hc => ?_)
                    · rw [orFd hc] at h
                      refine rF rfl rfl rfl <| rY rfl rfl rfl <| ARun.qv (n_load_ptr_part rfl rfl .p0 rfl rfl) rfl <| rY rfl rfl rfl <| ARun.qv (n_build rfl rfl rfl rfl rfl) rfl <| rY rfl rfl rfl <| ARun.qv (t_tne (g := ValueS.av) (X := p0x0.Value) (Y := (⟨(0 : Int), false, (0 : Int), []⟩ : ValueS)) rfl rfl rfl rfl rfl) rfl <| rY rfl rfl rfl <| rE rfl rfl rfl <| rY rfl rfl rfl <| rM rfl rfl <| ARun.guard_df rfl rfl rfl (fun hc => ?_) (fun hc => ?_)
                      · rw [orFd hc] at h
                        exact rF rfl rfl rfl <| rY rfl rfl rfl <| ARun.qv (n_load_ptr_part rfl rfl .p0 rfl rfl) rfl <| rY rfl rfl rfl <| ARun.qv (n_build rfl rfl rfl rfl rfl) rfl <| rY rfl rfl rfl <| ARun.qv (t_tne (g := Version.av) (X := p0x0.Version) (Y := (⟨(0 : Int), (0 : Int), (0 : Int)⟩ : Version)) rfl rfl rfl rfl rfl) rfl <| rY rfl rfl rfl <| rE rfl rfl rfl <| rT rfl rfl rfl <| rA rfl rfl <| rN <| ATodo.stop <| ImpX.lq [0] ⟨decide (p0x0.Version ≠ (⟨(0 : Int), (0 : Int), (0 : Int)⟩ : Version)), h, rfl⟩ rfl rfl
                      · rw [orTd hc] at h
                        exact rG rfl rfl rfl rfl <| rG rfl rfl rfl rfl <| rG rfl rfl rfl rfl <| rY rfl rfl rfl <| rT rfl rfl rfl <| rT rfl rfl rfl <| rA rfl rfl <| rN <| ATodo.stop <| ImpX.lq [0] ⟨true, h, rfl⟩ rfl rfl
                    · rw [orTd hc] at h
                      exact rG rfl rfl rfl rfl <| rG rfl rfl rfl rfl <| rG rfl rfl rfl rfl <| rY rfl rfl rfl <| rT rfl rfl rfl <| rY rfl rfl rfl <| rM rfl rfl <| rG rfl rfl rfl rfl <| rG rfl rfl rfl rfl <| rG rfl rfl rfl rfl <| rG rfl rfl rfl rfl <| rY rfl rfl rfl <| rT rfl rfl rfl <| rT rfl rfl rfl <| rA rfl rfl <| rN <| ATodo.stop <| ImpX.lq [0] ⟨true, h, rfl⟩ rfl rfl
                  · rw [andFd hc] at h
                    exact rG rfl rfl rfl rfl <| rG rfl rfl rfl rfl <| rG rfl rfl rfl rfl <| ARun.guard_und rfl rfl rfl <| ARun.guard_und rfl rfl rfl <| ARun.guard_und rfl rfl rfl <| ARun.guard_und rfl rfl rfl <| rG rfl rfl rfl rfl <| rG rfl rfl rfl rfl <| ARun.guard_und rfl rfl rfl <| ARun.guard_und rfl rfl rfl <| ARun.guard_und rfl rfl rfl <| ARun.guard_und rfl rfl rfl <| rG rfl rfl rfl rfl <| rE rfl rfl rfl <| rA rfl rfl <| rN <| ATodo.stop <| ImpX.lq [0] ⟨false, h, rfl⟩ rfl rfl
                · rintro σ' ⟨c10, h, rfl⟩
                  unfold Q_oneQuery_j8 at h
                  refine ATodo.cut (fun σ' => ∃ (c11 : Bool), Q_oneQuery_j9 self p0x0 c11 = some r ∧ σ' = ⟨98, [(1, .ptr b1 0), (51, .bool c11)], [(b1, .cells [I p0x0.Kind, .str p0x0.Field, .str p0x0.Op, I p0x0.Value.Kind, .bool p0x0.Value.Flag, I p0x0.Value.Number, .str p0x0.Value.Words, I p0x0.Version.Major, I p0x0.Version.Minor, I p0x0.Version.Patch, .list 11 (p0x0.Kids.map Query.av)])]⟩) ?_ ?_
                  · refine ATodo.cond rfl (fun hc => ?_) (fun hc => ?_)
                    · exact have h := iteT hc h; tK <| ATodo.stop <| ImpX.lq [0] ⟨c10, h, rfl⟩ rfl rfl
                    · refine have h := iteFb hc h; ATodo.cut (fun σ' => ∃ (c12 : Bool), Q_oneQuery_j10 self p0x0 c12 = some r ∧ σ' = ⟨98, [(1, .ptr b1 0), (51, .bool c12)], [(b1, .cells [I p0x0.Kind, .str p0x0.Field, .str p0x0.Op, I p0x0.Value.Kind, .bool p0x0.Value.Flag, I p0x0.Value.Number, .str p0x0.Value.Words, I p0x0.Version.Major, I p0x0.Version.Minor, I p0x0.Version.Patch, .list 11 (p0x0.Kids.map Query.av)])]⟩) ?_ ?_
                      · refine tR <| rF rfl rfl rfl <| rL rfl rfl .p0 rfl rfl <| ARun.qv (q_gtr rfl rfl) rfl <| rM rfl rfl <| ARun.guard_dt rfl rfl rfl (fun hc => ?_) (fun hc => ?_)
                        · rw [andTd hc] at h
                          exact rF rfl rfl rfl <| rY rfl rfl rfl <| rL rfl rfl .p0 rfl rfl <| rY rfl rfl rfl <| ARun.qv (q_sne rfl rfl) rfl <| rT rfl rfl rfl <| rA rfl rfl <| rN <| ATodo.stop <| ImpX.lq [0] ⟨decide (p0x0.Field ≠ ([] : Str)), h, rfl⟩ rfl rfl
                        · rw [andFd hc] at h
                          exact rG rfl rfl rfl rfl <| rG rfl rfl rfl rfl <| rE rfl rfl rfl <| rA rfl rfl <| rN <| ATodo.stop <| ImpX.lq [0] ⟨false, h, rfl⟩ rfl rfl
                      · rintro σ' ⟨c12, h, rfl⟩
                        unfold Q_oneQuery_j10 at h
                        exact ATodo.stop <| ImpX.lq [0] ⟨c12, h, rfl⟩ rfl rfl
                  · rintro σ' ⟨c11, h, rfl⟩
                    unfold Q_oneQuery_j9 at h
                    refine ATodo.cond rfl (fun hc => ?_) (fun hc => ?_)
                    · refine have h := iteT hc h; tSR <| rA rfl rfl <| rN <| ATodo.ret <| ?_
                      obtain rfl := Option.some.inj h
                      exact ImpX.here ⟨_, .cons (.tmp _ _ rfl) .nil, rfl⟩
                    · refine have h := iteFb hc h; tK <| ATodo.blk <| tS <| tSR <| rF rfl rfl rfl <| rL rfl rfl .p0 rfl rfl <| ARun.qv (q_leq rfl rfl) rfl <| rN <| ATodo.cond_d rfl (fun hc => ?_) (fun hc => ?_)
                      · refine have h := iteT hc h; tSR <| ARun.qv (q_load_ptr_all rfl rfl .p0 rfl) rfl <| bndE h fun v13 e2 h => r_callp rfl (Q_isFault_c e2) (CoL.refl _) rfl <| rA rfl rfl <| rN <| ATodo.ret <| ?_
                        obtain rfl := Option.some.inj h
                        exact ImpX.here ⟨_, .cons (.tmp _ _ rfl) .nil, rfl⟩
                      · refine have h := iteF hc h; tK <| tS <| tSR <| rF rfl rfl rfl <| rL rfl rfl .p0 rfl rfl <| ARun.qv (t_len rfl) rfl <| rM rfl rfl <| rN <| ATodo.block <| ATodo.loopI (fun x : Int => Q_oneQuery_b1 self p0x0 x) (fun x σ' => σ' = ⟨98, [(86, .list 11 (p0x0.Kids.map Query.av)), (87, I (p0x0.Kids.length : Int)), (88, I x)], []⟩) h ?_ ?_
                        · exact ImpX.lq [] rfl rfl rfl
                        · intro n15 z1 σ' J1 hmk h hJ1 hA1
                          obtain rfl := hmk
                          replace h : Q_oneQuery_b1 self p0x0 n15 = some z1 := h
                          unfold Q_oneQuery_b1 at h
                          refine tSR <| ARun.qv (q_lss rfl rfl) rfl <| rN <| tS <| ATodo.cond_d rfl (fun hc => ?_) (fun hc => ?_)
                          · refine have h := iteT hc h; tK <| tS <| ATodo.block <| tSR <| bndE h fun v16 e3 h => ARun.qv (t_index rfl rfl rfl e3 rfl (by rw [Query.av_eq]; rfl)) rfl <| ARun.qv (q_load_rptr_agg rfl rfl rfl) rfl <| n_alloc rfl rfl rfl rfl fun b17 => n_store_ptr rfl rfl rfl rfl .p0 rfl rfl <| rN <| tSR <| ARun.qv (q_load_ptr_all rfl rfl .p0 rfl) rfl <| bndE h fun v18 e4 h => r_callp rfl (self_h e4) (CoL.refl _) rfl <| rA rfl rfl <| rN <| tSR <| rM rfl rfl <| ARun.qv (q_neq rfl rfl) rfl <| rN <| ATodo.cond_d rfl (fun hc => ?_) (fun hc => ?_)
                            · refine have h := iteT hc h; tSR <| rM rfl rfl <| rA rfl rfl <| rN <| ATodo.ret <| have h := outL h hA1; ?_
                              obtain rfl := Option.some.inj h
                              exact ImpX.here ⟨_, .cons (.tmp _ _ rfl) .nil, rfl⟩
                            · refine have h := iteF hc h; tK <| ATodo.blk <| tR <| ARun.qv (q_addw rfl rfl) rfl <| rM rfl rfl <| rN <| ATodo.stop <| ?_
                              obtain rfl := Option.some.inj h
                              exact hJ1 _ _ rfl <| ImpX.lq [] rfl rfl rfl
                          · refine have h := iteF hc h; ATodo.exit rfl <| have h := outL h hA1; tSR <| rA rfl rfl <| rN <| ATodo.ret <| ?_
                            obtain rfl := Option.some.inj h
                            exact ImpX.here ⟨_, .cons (.tmp _ _ rfl) .nil, rfl⟩
theorem Q_oneQuery_r_c : ∀ (k : Nat) {p0x0 : Query} {r : Int}, Q_oneQuery_r k p0x0 = some r → Pu Tryz.prog 122 [.agg [I p0x0.Kind, .str p0x0.Field, .str p0x0.Op, I p0x0.Value.Kind, .bool p0x0.Value.Flag, I p0x0.Value.Number, .str p0x0.Value.Words, I p0x0.Version.Major, I p0x0.Version.Minor, I p0x0.Version.Patch, .list 11 (p0x0.Kids.map Query.av)]] (I r) := by
  intro k
  induction k with
  | zero => intro p0x0 r h; cases h
  | succ k ih => intro p0x0 r h; exact Q_oneQuery_bd_c ih h
theorem Q_oneQuery_c {p0x0 : Query} {r : Int} (h : Q_oneQuery p0x0 = some r) : Pu Tryz.prog 122 [.agg [I p0x0.Kind, .str p0x0.Field, .str p0x0.Op, I p0x0.Value.Kind, .bool p0x0.Value.Flag, I p0x0.Value.Number, .str p0x0.Value.Words, I p0x0.Version.Major, I p0x0.Version.Minor, I p0x0.Version.Patch, .list 11 (p0x0.Kids.map Query.av)]] (I r) := Q_oneQuery_r_c depth h

set_option maxHeartbeats 4000000 in
theorem Q_QueryFault_c {p0x0 : Query} {r : Int} (h : Q_QueryFault p0x0 = some r) : Pu Tryz.prog 48 [.agg [I p0x0.Kind, .str p0x0.Field, .str p0x0.Op, I p0x0.Value.Kind, .bool p0x0.Value.Flag, I p0x0.Value.Number, .str p0x0.Value.Words, I p0x0.Version.Major, I p0x0.Version.Minor, I p0x0.Version.Patch, .list 11 (p0x0.Kids.map Query.av)]] (I r) := by
  unfold Q_QueryFault at h
  refine ACall.bodyN Tryz.func48 rfl Tryz.ntmps48 Tryz.results48 rfl rfl ?_
  refine tSR <| n_box rfl rfl rfl rfl fun b1 => rA rfl rfl <| rN <| tS <| tS <| ATodo.cut (fun σ' => ∃ (c2 : Bool), Q_QueryFault_j1 p0x0 c2 = some r ∧ σ' = ⟨14, [(1, .ptr b1 0), (11, .bool c2)], [(b1, .cells [I p0x0.Kind, .str p0x0.Field, .str p0x0.Op, I p0x0.Value.Kind, .bool p0x0.Value.Flag, I p0x0.Value.Number, .str p0x0.Value.Words, I p0x0.Version.Major, I p0x0.Version.Minor, I p0x0.Version.Patch, .list 11 (p0x0.Kids.map Query.av)])]⟩) ?_ ?_
  · refine tR <| ARun.qv (q_load_ptr_all rfl rfl .p0 rfl) rfl <| bndE h fun v3 e1 h => t_call1 rfl (Q_leaves_c e1) (CoL.refl _) .nil (fun _ => rfl) rfl fun b4 => ARun.qv (t_len_sl rfl) rfl <| ARun.qv (q_gtr rfl rfl) rfl <| rM rfl rfl <| ARun.guard_df rfl rfl rfl (fun hc => ?_) (fun hc => ?_)
    · exact have h := iteF hc h; ARun.qv (q_load_ptr_all rfl rfl .p1 rfl) rfl <| rY rfl rfl rfl <| bndE h fun v5 e2 h => r_callp rfl (Q_deep_c e2) (CoL.refl _) rfl <| rY rfl rfl rfl <| ARun.qv (q_gtr rfl rfl) rfl <| rE rfl rfl rfl <| rN <| ATodo.stop <| ImpX.lq [1] ⟨decide ((20 : Int) < v5), h, rfl⟩ rfl rfl
    · exact have h := iteT hc h; rG rfl rfl rfl rfl <| rG rfl rfl rfl rfl <| rT rfl rfl rfl <| rN <| ATodo.stop <| ImpX.lq [1] ⟨true, h, rfl⟩ rfl rfl
  · rintro σ' ⟨c2, h, rfl⟩
    unfold Q_QueryFault_j1 at h
    refine ATodo.cond rfl (fun hc => ?_) (fun hc => ?_)
    · refine have h := iteT hc h; tSR <| rA rfl rfl <| rN <| ATodo.ret <| ?_
      obtain rfl := Option.some.inj h
      exact ImpX.here ⟨_, .cons (.tmp _ _ rfl) .nil, rfl⟩
    · refine have h := iteFb hc h; tK <| tSR <| ARun.qv (q_load_ptr_all rfl rfl .p0 rfl) rfl <| bndE h fun v6 e3 h => r_callp rfl (Q_oneQuery_c e3) (CoL.refl _) rfl <| rA rfl rfl <| rN <| ATodo.ret <| ?_
      obtain rfl := Option.some.inj h
      exact ImpX.here ⟨_, .cons (.tmp _ _ rfl) .nil, rfl⟩

set_option maxHeartbeats 4000000 in
theorem Q_plain_c {p0x0 : Str} {r : Bool} (h : Q_plain p0x0 = some r) : Pu Tryz.prog 124 [.str p0x0] (.bool r) := by
  unfold Q_plain at h
  refine ACall.bodyN Tryz.func124 rfl Tryz.ntmps124 Tryz.results124 rfl rfl ?_
  refine tSR <| rA rfl rfl <| rN <| tS <| tSR <| rM rfl rfl <| t_conv_sb rfl rfl <| ARun.qv (t_len rfl) rfl <| rM rfl rfl <| rN <| ATodo.block <| ATodo.loopI (fun x : Int => Q_plain_b1 p0x0 x) (fun x σ' => σ' = ⟨32, [(0, .str p0x0), (6, .list 1 ((bytesI p0x0).map (AV.int .u8))), (7, I ((bytesI p0x0).length : Int)), (8, I x)], []⟩) h ?_ ?_
  · exact ImpX.lq [] rfl rfl rfl
  · intro n2 z1 σ' J1 hmk h hJ1 hA1
    obtain rfl := hmk
    replace h : Q_plain_b1 p0x0 n2 = some z1 := h
    unfold Q_plain_b1 at h
    refine tSR <| ARun.qv (q_lss rfl rfl) rfl <| rN <| tS <| ATodo.cond_d rfl (fun hc => ?_) (fun hc => ?_)
    · refine have h := iteT hc h; tK <| tS <| ATodo.block <| tSR <| bndE h fun v3 e1 h => ARun.qv (t_index rfl rfl rfl e1 rfl rfl) rfl <| ARun.qv (q_load_rptr rfl rfl rfl) rfl <| rA rfl rfl <| rN <| tS <| ATodo.cut (fun σ' => ∃ (c4 : Bool), Q_plain_j1 n2 c4 = some z1 ∧ σ' = ⟨32, [(0, .str p0x0), (6, .list 1 ((bytesI p0x0).map (AV.int .u8))), (7, I ((bytesI p0x0).length : Int)), (8, I n2), (17, .bool c4)], []⟩) ?_ ?_
      · refine tR <| rM rfl rfl <| ARun.qv (q_lss rfl rfl) rfl <| rM rfl rfl <| ARun.guard_df rfl rfl rfl (fun hc => ?_) (fun hc => ?_)
        · rw [orFd hc] at h
          exact rM rfl rfl <| rY rfl rfl rfl <| ARun.qv (q_eql rfl rfl) rfl <| rE rfl rfl rfl <| rN <| ATodo.stop <| ImpX.lq [] ⟨decide (v3 = (127 : Int)), h, rfl⟩ rfl rfl
        · rw [orTd hc] at h
          exact rG rfl rfl rfl rfl <| rT rfl rfl rfl <| rN <| ATodo.stop <| ImpX.lq [] ⟨true, h, rfl⟩ rfl rfl
      · rintro σ' ⟨c4, h, rfl⟩
        unfold Q_plain_j1 at h
        refine ATodo.cond rfl (fun hc => ?_) (fun hc => ?_)
        · refine have h := iteT hc h; tSR <| rA rfl rfl <| rN <| ATodo.ret <| have h := outL h hA1; ?_
          obtain rfl := Option.some.inj h
          exact ImpX.here ⟨_, .cons (.tmp _ _ rfl) .nil, rfl⟩
        · refine have h := iteFb hc h; tK <| ATodo.blk <| tR <| ARun.qv (q_addw rfl rfl) rfl <| rM rfl rfl <| rN <| ATodo.stop <| ?_
          obtain rfl := Option.some.inj h
          exact hJ1 _ _ rfl <| ImpX.lq [] rfl rfl rfl
    · refine have h := iteF hc h; ATodo.exit rfl <| have h := outL h hA1; ?_
      unfold Q_plain_k3 at h
      refine tS <| ATodo.cut (fun σ' => ∃ (c5 : Bool), Q_plain_j2 c5 = some r ∧ σ' = ⟨32, [(2, .bool c5)], []⟩) ?_ ?_
      · refine tR <| rM rfl rfl <| bndE h fun v6 e2 h => r_callp rfl (utf8_ValidString_c e2) (CoL.refl _) rfl <| rM rfl rfl <| ARun.guard rfl rfl rfl (fun hc => ?_) (fun hc => ?_)
        · refine have h := iteT hc h; rM rfl rfl <| rY rfl rfl rfl <| rM rfl rfl <| rY rfl rfl rfl <| bndE h fun v7 e3 h => r_callp rfl (strings_Trim_c e3) (CoL.refl _) rfl <| rY rfl rfl rfl <| ARun.qv (q_seq rfl rfl) rfl <| rT rfl rfl rfl <| rM rfl rfl <| ARun.guard_dt rfl rfl rfl (fun hc => ?_) (fun hc => ?_)
          · exact have h := iteT hc h; rM rfl rfl <| rY rfl rfl rfl <| bndE h fun v8 e4 h => r_callp rfl (strings_Contains_c e4) (CoL.refl _) rfl <| rY rfl rfl rfl <| ARun.qv (q_not rfl) rfl <| rT rfl rfl rfl <| rA rfl rfl <| rN <| ATodo.stop <| ImpX.lq [] ⟨!v8, h, rfl⟩ rfl rfl
          · exact have h := iteF hc h; rG rfl rfl rfl rfl <| rG rfl rfl rfl rfl <| rE rfl rfl rfl <| rA rfl rfl <| rN <| ATodo.stop <| ImpX.lq [] ⟨false, h, rfl⟩ rfl rfl
        · exact have h := iteFb hc h; rG rfl rfl rfl rfl <| rG rfl rfl rfl rfl <| rG rfl rfl rfl rfl <| rE rfl rfl rfl <| rM rfl rfl <| rG rfl rfl rfl rfl <| rG rfl rfl rfl rfl <| rG rfl rfl rfl rfl <| rE rfl rfl rfl <| rA rfl rfl <| rN <| ATodo.stop <| ImpX.lq [] ⟨false, h, rfl⟩ rfl rfl
      · rintro σ' ⟨c5, h, rfl⟩
        unfold Q_plain_j2 at h
        refine ATodo.ret <| ?_
        obtain rfl := Option.some.inj h
        exact ImpX.here ⟨_, .cons (.tmp _ _ rfl) .nil, rfl⟩

set_option maxHeartbeats 4000000 in
theorem Q_ItemFault_c {p0x0 : ItemS} {r : Int} (h : Q_ItemFault p0x0 = some r) : Pu Tryz.prog 49 [.agg [.str p0x0.Device.Key, .str p0x0.Device.Model, .str p0x0.Device.Tenant, I p0x0.Device.Firmware.Major, I p0x0.Device.Firmware.Minor, I p0x0.Device.Firmware.Patch, .list 2 (p0x0.Device.Tags.map Pair.av), .list 5 (p0x0.Props.map PropS.av)]] (I r) := by
  unfold Q_ItemFault at h
  refine ACall.bodyN Tryz.func49 rfl Tryz.ntmps49 Tryz.results49 rfl rfl ?_
  refine tSR <| n_box rfl rfl rfl rfl fun b1 => rA rfl rfl <| rN <| tSR <| rF rfl rfl rfl <| ARun.qv (n_load_ptr_part rfl rfl .p0 rfl rfl) rfl <| n_alloc rfl rfl rfl rfl fun b2 => n_store_ptr rfl rfl rfl rfl .p0 rfl rfl <| rN <| tS <| ATodo.block <| tS <| ATodo.cut (fun σ' => ∃ (c3 : Bool), Q_ItemFault_j1 p0x0 c3 = some r ∧ σ' = ⟨131, [(1, .ptr b1 0), (3, .ptr b2 0), (10, .bool c3)], [(b1, .cells [.str p0x0.Device.Key, .str p0x0.Device.Model, .str p0x0.Device.Tenant, I p0x0.Device.Firmware.Major, I p0x0.Device.Firmware.Minor, I p0x0.Device.Firmware.Patch, .list 2 (p0x0.Device.Tags.map Pair.av), .list 5 (p0x0.Props.map PropS.av)]), (b2, .cells [.str p0x0.Device.Key, .str p0x0.Device.Model, .str p0x0.Device.Tenant, I p0x0.Device.Firmware.Major, I p0x0.Device.Firmware.Minor, I p0x0.Device.Firmware.Patch, .list 2 (p0x0.Device.Tags.map Pair.av)])]⟩) ?_ ?_
  · refine tR <| rF rfl rfl rfl <| rL rfl rfl .p0 rfl rfl <| bndE h fun v4 e1 h => r_callp rfl (Q_Key_c e1) (CoL.refl _) rfl <| ARun.qv (q_not rfl) rfl <| rM rfl rfl <| ARun.guard rfl rfl rfl (fun hc => ?_) (fun hc => ?_)
    · refine have h := iteFb hc h; rF rfl rfl rfl <| rY rfl rfl rfl <| rL rfl rfl .p0 rfl rfl <| rY rfl rfl rfl <| bndE h fun v5 e2 h => r_callp rfl (Q_Key_c e2) (CoL.refl _) rfl <| rY rfl rfl rfl <| ARun.qv (q_not rfl) rfl <| rE rfl rfl rfl <| rM rfl rfl <| ARun.guard rfl rfl rfl (fun hc => ?_) (fun hc => ?_)
      · refine have h := iteFb hc h; rF rfl rfl rfl <| rY rfl rfl rfl <| rL rfl rfl .p0 rfl rfl <| rY rfl rfl rfl <| ARun.qv (q_sne rfl rfl) rfl <| rY rfl rfl rfl <| rM rfl rfl <| ARun.guard_dt rfl rfl rfl (fun hc => ?_) (fun hc => ?_)
        · exact have h := iteT hc h; rF rfl rfl rfl <| rY rfl rfl rfl <| rL rfl rfl .p0 rfl rfl <| rY rfl rfl rfl <| bndE h fun v6 e3 h => r_callp rfl (Q_Key_c e3) (CoL.refl _) rfl <| rY rfl rfl rfl <| ARun.qv (q_not rfl) rfl <| rY rfl rfl rfl <| rT rfl rfl rfl <| rE rfl rfl rfl <| rA rfl rfl <| rN <| ATodo.stop <| ImpX.lq [1, 0] ⟨!v6, h, rfl⟩ rfl rfl
        · exact have h := iteF hc h; rG rfl rfl rfl rfl <| rG rfl rfl rfl rfl <| rG rfl rfl rfl rfl <| rY rfl rfl rfl <| rE rfl rfl rfl <| rE rfl rfl rfl <| rA rfl rfl <| rN <| ATodo.stop <| ImpX.lq [1, 0] ⟨false, h, rfl⟩ rfl rfl
      · exact have h := iteT hc h; rG rfl rfl rfl rfl <| rG rfl rfl rfl rfl <| rG rfl rfl rfl rfl <| ARun.guard_und rfl rfl rfl <| ARun.guard_und rfl rfl rfl <| ARun.guard_und rfl rfl rfl <| ARun.guard_und rfl rfl rfl <| rG rfl rfl rfl rfl <| rT rfl rfl rfl <| rA rfl rfl <| rN <| ATodo.stop <| ImpX.lq [1, 0] ⟨true, h, rfl⟩ rfl rfl
    · exact have h := iteT hc h; rG rfl rfl rfl rfl <| rG rfl rfl rfl rfl <| rG rfl rfl rfl rfl <| rT rfl rfl rfl <| rM rfl rfl <| rG rfl rfl rfl rfl <| rG rfl rfl rfl rfl <| rG rfl rfl rfl rfl <| rG rfl rfl rfl rfl <| ARun.guard_und rfl rfl rfl <| ARun.guard_und rfl rfl rfl <| ARun.guard_und rfl rfl rfl <| ARun.guard_und rfl rfl rfl <| rG rfl rfl rfl rfl <| rT rfl rfl rfl <| rA rfl rfl <| rN <| ATodo.stop <| ImpX.lq [1, 0] ⟨true, h, rfl⟩ rfl rfl
  · rintro σ' ⟨c3, h, rfl⟩
    unfold Q_ItemFault_j1 at h
    refine ATodo.cond rfl (fun hc => ?_) (fun hc => ?_)
    · refine have h := iteT hc h; tSR <| rA rfl rfl <| rN <| ATodo.ret <| ?_
      obtain rfl := Option.some.inj h
      exact ImpX.here ⟨_, .cons (.tmp _ _ rfl) .nil, rfl⟩
    · refine have h := iteFb hc h; tSR <| rF rfl rfl rfl <| ARun.qv (n_load_ptr_part rfl rfl .p1 rfl rfl) rfl <| r_callp rfl (Q_versionRight_c rfl) (CoL.refl _) rfl <| ARun.qv (q_not rfl) rfl <| rA rfl rfl <| rN <| ATodo.cond rfl (fun hc => ?_) (fun hc => ?_)
      · refine have h := iteT hc h; tSR <| rA rfl rfl <| rN <| ATodo.ret <| ?_
        obtain rfl := Option.some.inj h
        exact ImpX.here ⟨_, .cons (.tmp _ _ rfl) .nil, rfl⟩
      · refine have h := iteFb hc h; tSR <| rF rfl rfl rfl <| rL rfl rfl .p1 rfl rfl <| ARun.qv (t_len rfl) rfl <| ARun.qv (q_gtr rfl rfl) rfl <| rA rfl rfl <| rN <| ATodo.cond_d rfl (fun hc => ?_) (fun hc => ?_)
        · refine have h := iteT hc h; tSR <| rA rfl rfl <| rN <| ATodo.ret <| ?_
          obtain rfl := Option.some.inj h
          exact ImpX.here ⟨_, .cons (.tmp _ _ rfl) .nil, rfl⟩
        · refine have h := iteF hc h; tK <| ATodo.blk <| tS <| tSR <| rF rfl rfl rfl <| rL rfl rfl .p1 rfl rfl <| ARun.qv (t_len rfl) rfl <| rM rfl rfl <| rN <| ATodo.block <| ATodo.loopI (fun x : Int => Q_ItemFault_b1 p0x0 x) (fun x σ' => σ' = ⟨131, [(1, .ptr b1 0), (3, .ptr b2 0), (43, .list 2 (p0x0.Device.Tags.map Pair.av)), (44, I (p0x0.Device.Tags.length : Int)), (45, I x)], [(b1, .cells [.str p0x0.Device.Key, .str p0x0.Device.Model, .str p0x0.Device.Tenant, I p0x0.Device.Firmware.Major, I p0x0.Device.Firmware.Minor, I p0x0.Device.Firmware.Patch, .list 2 (p0x0.Device.Tags.map Pair.av), .list 5 (p0x0.Props.map PropS.av)]), (b2, .cells [.str p0x0.Device.Key, .str p0x0.Device.Model, .str p0x0.Device.Tenant, I p0x0.Device.Firmware.Major, I p0x0.Device.Firmware.Minor, I p0x0.Device.Firmware.Patch, .list 2 (p0x0.Device.Tags.map Pair.av)])]⟩) h ?_ ?_
          · exact ImpX.lq [0, 0] rfl rfl rfl
          · intro n8 z1 σ' J1 hmk h hJ1 hA1
            obtain rfl := hmk
            replace h : Q_ItemFault_b1 p0x0 n8 = some z1 := h
            unfold Q_ItemFault_b1 at h
            refine tSR <| ARun.qv (q_lss rfl rfl) rfl <| rN <| tS <| ATodo.cond_d rfl (fun hc => ?_) (fun hc => ?_)
            · refine have h := iteT hc h; tK <| tS <| ATodo.block <| tSR <| rM rfl rfl <| bndE h fun v9 e4 h => ARun.qv (t_index rfl rfl rfl e4 rfl rfl) rfl <| ARun.qv (q_load_rptr_agg rfl rfl rfl) rfl <| n_alloc rfl rfl rfl rfl fun b10 => rA rfl rfl <| n_store_ptr rfl rfl rfl rfl .p0 rfl rfl <| rN <| ATodo.block <| tSR <| rF rfl rfl rfl <| rL rfl rfl .p0 rfl rfl <| bndE h fun v11 e5 h => r_callp rfl (Q_Key_c e5) (CoL.refl _) rfl <| ARun.qv (q_not rfl) rfl <| rA rfl rfl <| rN <| ATodo.cond rfl (fun hc => ?_) (fun hc => ?_)
              · refine have h := iteT hc h; tSR <| rA rfl rfl <| rN <| ATodo.ret <| have h := outL h hA1; ?_
                obtain rfl := Option.some.inj h
                exact ImpX.here ⟨_, .cons (.tmp _ _ rfl) .nil, rfl⟩
              · refine have h := iteFb hc h; tS <| ATodo.cut (fun σ' => ∃ (c12 : Bool), Q_ItemFault_j2 n8 v9 c12 = some z1 ∧ σ' = ⟨131, [(1, .ptr b1 0), (3, .ptr b2 0), (5, .ptr b10 0), (43, .list 2 (p0x0.Device.Tags.map Pair.av)), (44, I (p0x0.Device.Tags.length : Int)), (45, I n8), (55, .bool c12)], [(b1, .cells [.str p0x0.Device.Key, .str p0x0.Device.Model, .str p0x0.Device.Tenant, I p0x0.Device.Firmware.Major, I p0x0.Device.Firmware.Minor, I p0x0.Device.Firmware.Patch, .list 2 (p0x0.Device.Tags.map Pair.av), .list 5 (p0x0.Props.map PropS.av)]), (b2, .cells [.str p0x0.Device.Key, .str p0x0.Device.Model, .str p0x0.Device.Tenant, I p0x0.Device.Firmware.Major, I p0x0.Device.Firmware.Minor, I p0x0.Device.Firmware.Patch, .list 2 (p0x0.Device.Tags.map Pair.av)]), (b10, .cells [.str v9.Name, .str v9.Value])]⟩) ?_ ?_
                · refine ATodo.regionM (id := 13) (A := [0, 1, 3, 7, 15, 7, 39, 7, 135, 487, 999, 2023, 4095, 8191, 16383]) 15 mixed rfl (by kernel_rfl) (by kernel_rfl) <| AM.qv (q_move rfl) rfl <| AM.qv (q_gtr rfl rfl) rfl <| AM.qv (q_move rfl) rfl <| AM.guard_dt rfl rfl rfl (fun hc => ?_) (fun hc => ?_)
                  · exact have h := iteT hc h; AM.qv (n_field_ptr rfl rfl) rfl <| AM.guard_yes rfl rfl rfl <| AM.qv (q_load_ptr rfl rfl .p0 rfl) rfl <| AM.guard_yes rfl rfl rfl <| AM.qv (n_field_ptr rfl rfl) rfl <| AM.guard_yes rfl rfl rfl <| AM.qv (q_load_ptr rfl rfl .p2 rfl) rfl <| AM.guard_yes rfl rfl rfl <| AM.qv (q_move rfl) rfl <| AM.guard_yes rfl rfl rfl <| AM.qv (q_subw rfl rfl) rfl <| AM.guard_yes rfl rfl rfl <| bndE h fun v13 e6 h => AM.qv (t_index rfl rfl rfl e6 rfl rfl) rfl <| AM.guard_yes rfl rfl rfl <| AM.qv (n_field_rptr rfl rfl) rfl <| AM.guard_yes rfl rfl rfl <| AM.qv (q_load_rptr rfl rfl rfl) rfl <| AM.guard_yes rfl rfl rfl <| AM.qv (t_sleq rfl rfl) rfl <| AM.qv (q_pick_t rfl rfl) rfl <| AM.qv (q_assign rfl) rfl <| AM.nil <| rN <| ATodo.stop <| ImpX.lq [1, 1, 0] ⟨Op.bytesLess v9.Name v13.Name || v9.Name == v13.Name, h, rfl⟩ rfl rfl
                  · exact have h := iteF hc h; AM.guard_no rfl rfl rfl rfl <| AM.guard_no rfl rfl rfl rfl <| AM.guard_no rfl rfl rfl rfl <| AM.guard_no rfl rfl rfl rfl <| AM.guard_no rfl rfl rfl rfl <| AM.guard_no rfl rfl rfl rfl <| AM.guard_no rfl rfl rfl rfl <| AM.guard_no rfl rfl rfl rfl <| AM.guard_no rfl rfl rfl rfl <| AM.qv (q_pick_f rfl rfl) rfl <| AM.qv (q_assign rfl) rfl <| AM.nil <| rN <| ATodo.stop <| ImpX.lq [1, 1, 0] ⟨false, h, rfl⟩ rfl rfl
                · rintro σ' ⟨c12, h, rfl⟩
                  unfold Q_ItemFault_j2 at h
                  refine ATodo.cond rfl (fun hc => ?_) (fun hc => ?_)
                  · refine have h := iteT hc h; tSR <| rA rfl rfl <| rN <| ATodo.ret <| have h := outL h hA1; ?_
                    obtain rfl := Option.some.inj h
                    exact ImpX.here ⟨_, .cons (.tmp _ _ rfl) .nil, rfl⟩
                  · refine have h := iteFb hc h; tS <| ATodo.cut (fun σ' => ∃ (c14 : Bool), Q_ItemFault_j3 n8 c14 = some z1 ∧ σ' = ⟨131, [(1, .ptr b1 0), (3, .ptr b2 0), (43, .list 2 (p0x0.Device.Tags.map Pair.av)), (44, I (p0x0.Device.Tags.length : Int)), (45, I n8), (70, .bool c14)], [(b1, .cells [.str p0x0.Device.Key, .str p0x0.Device.Model, .str p0x0.Device.Tenant, I p0x0.Device.Firmware.Major, I p0x0.Device.Firmware.Minor, I p0x0.Device.Firmware.Patch, .list 2 (p0x0.Device.Tags.map Pair.av), .list 5 (p0x0.Props.map PropS.av)]), (b2, .cells [.str p0x0.Device.Key, .str p0x0.Device.Model, .str p0x0.Device.Tenant, I p0x0.Device.Firmware.Major, I p0x0.Device.Firmware.Minor, I p0x0.Device.Firmware.Patch, .list 2 (p0x0.Device.Tags.map Pair.av)])]⟩) ?_ ?_
                    · refine tR <| rF rfl rfl rfl <| rL rfl rfl .p2 rfl rfl <| ARun.qv (q_seq rfl rfl) rfl <| rM rfl rfl <| ARun.guard_df rfl rfl rfl (fun hc => ?_) (fun hc => ?_)
                      · refine have h := iteF hc h; rF rfl rfl rfl <| rY rfl rfl rfl <| rL rfl rfl .p2 rfl rfl <| rY rfl rfl rfl <| bndE h fun v15 e7 h => r_callp rfl (Q_plain_c e7) (CoL.refl _) rfl <| rY rfl rfl rfl <| ARun.qv (q_not rfl) rfl <| rE rfl rfl rfl <| rM rfl rfl <| ARun.guard rfl rfl rfl (fun hc => ?_) (fun hc => ?_)
                        · rw [orFb hc] at h
                          exact rF rfl rfl rfl <| rY rfl rfl rfl <| rL rfl rfl .p2 rfl rfl <| rY rfl rfl rfl <| ARun.qv (q_len_str rfl) rfl <| rY rfl rfl rfl <| ARun.qv (q_gtr rfl rfl) rfl <| rE rfl rfl rfl <| rA rfl rfl <| rN <| ATodo.stop <| ImpX.lq [0, 0] ⟨decide ((100 : Int) < (v9.Value.length : Int)), h, rfl⟩ rfl rfl
                        · rw [orTb hc] at h
                          exact rG rfl rfl rfl rfl <| rG rfl rfl rfl rfl <| rG rfl rfl rfl rfl <| rT rfl rfl rfl <| rA rfl rfl <| rN <| ATodo.stop <| ImpX.lq [0, 0] ⟨true, h, rfl⟩ rfl rfl
                      · exact have h := iteT hc h; rG rfl rfl rfl rfl <| rG rfl rfl rfl rfl <| rG rfl rfl rfl rfl <| rT rfl rfl rfl <| rM rfl rfl <| rG rfl rfl rfl rfl <| rG rfl rfl rfl rfl <| rG rfl rfl rfl rfl <| rG rfl rfl rfl rfl <| rT rfl rfl rfl <| rA rfl rfl <| rN <| ATodo.stop <| ImpX.lq [0, 0] ⟨true, h, rfl⟩ rfl rfl
                    · rintro σ' ⟨c14, h, rfl⟩
                      unfold Q_ItemFault_j3 at h
                      refine ATodo.cond rfl (fun hc => ?_) (fun hc => ?_)
                      · refine have h := iteT hc h; tSR <| rA rfl rfl <| rN <| ATodo.ret <| have h := outL h hA1; ?_
                        obtain rfl := Option.some.inj h
                        exact ImpX.here ⟨_, .cons (.tmp _ _ rfl) .nil, rfl⟩
                      · refine have h := iteFb hc h; tK <| ATodo.blk <| ATodo.blk <| tR <| ARun.qv (q_addw rfl rfl) rfl <| rM rfl rfl <| rN <| ATodo.stop <| ?_
                        obtain rfl := Option.some.inj h
                        exact hJ1 _ _ rfl <| ImpX.lq [0, 0] rfl rfl rfl
            · refine have h := iteF hc h; ATodo.exit rfl <| have h := outL h hA1; ?_
              unfold Q_ItemFault_k6 at h
              refine tS <| tSR <| rF rfl rfl rfl <| rL rfl rfl .p0 rfl rfl <| ARun.qv (t_len rfl) rfl <| ARun.qv (q_gtr rfl rfl) rfl <| rN <| ATodo.cond_d rfl (fun hc => ?_) (fun hc => ?_)
              · refine have h := iteT hc h; tSR <| rA rfl rfl <| rN <| ATodo.ret <| ?_
                obtain rfl := Option.some.inj h
                exact ImpX.here ⟨_, .cons (.tmp _ _ rfl) .nil, rfl⟩
              · refine have h := iteF hc h; tK <| tS <| tSR <| rF rfl rfl rfl <| rL rfl rfl .p0 rfl rfl <| ARun.qv (t_len rfl) rfl <| rM rfl rfl <| rN <| ATodo.block <| ATodo.loopI (fun x : Int => Q_ItemFault_b2 p0x0 x) (fun x σ' => σ' = ⟨131, [(1, .ptr b1 0), (92, .list 5 (p0x0.Props.map PropS.av)), (93, I (p0x0.Props.length : Int)), (94, I x)], [(b1, .cells [.str p0x0.Device.Key, .str p0x0.Device.Model, .str p0x0.Device.Tenant, I p0x0.Device.Firmware.Major, I p0x0.Device.Firmware.Minor, I p0x0.Device.Firmware.Patch, .list 2 (p0x0.Device.Tags.map Pair.av), .list 5 (p0x0.Props.map PropS.av)])]⟩) h ?_ ?_
                · exact ImpX.lq [0] rfl rfl rfl
                · intro n17 z2 σ' J2 hmk h hJ2 hA2
                  obtain rfl := hmk
                  replace h : Q_ItemFault_b2 p0x0 n17 = some z2 := h
                  unfold Q_ItemFault_b2 at h
                  refine tSR <| ARun.qv (q_lss rfl rfl) rfl <| rN <| tS <| ATodo.cond_d rfl (fun hc => ?_) (fun hc => ?_)
                  · refine have h := iteT hc h; tK <| tS <| ATodo.block <| tSR <| rM rfl rfl <| bndE h fun v18 e8 h => ARun.qv (t_index rfl rfl rfl e8 rfl rfl) rfl <| ARun.qv (q_load_rptr_agg rfl rfl rfl) rfl <| n_alloc rfl rfl rfl rfl fun b19 => rA rfl rfl <| n_store_ptr rfl rfl rfl rfl .p0 rfl rfl <| rN <| ATodo.block <| tSR <| rF rfl rfl rfl <| rL rfl rfl .p0 rfl rfl <| bndE h fun v20 e9 h => r_callp rfl (Q_PropName_c e9) (CoL.refl _) rfl <| ARun.qv (q_not rfl) rfl <| rA rfl rfl <| rN <| ATodo.cond rfl (fun hc => ?_) (fun hc => ?_)
                    · refine have h := iteT hc h; tSR <| rA rfl rfl <| rN <| ATodo.ret <| have h := outL h hA2; ?_
                      obtain rfl := Option.some.inj h
                      exact ImpX.here ⟨_, .cons (.tmp _ _ rfl) .nil, rfl⟩
                    · refine have h := iteFb hc h; tS <| ATodo.cut (fun σ' => ∃ (c21 : Bool), Q_ItemFault_j4 n17 v18 c21 = some z2 ∧ σ' = ⟨131, [(1, .ptr b1 0), (7, .ptr b19 0), (92, .list 5 (p0x0.Props.map PropS.av)), (93, I (p0x0.Props.length : Int)), (94, I n17), (104, .bool c21)], [(b1, .cells [.str p0x0.Device.Key, .str p0x0.Device.Model, .str p0x0.Device.Tenant, I p0x0.Device.Firmware.Major, I p0x0.Device.Firmware.Minor, I p0x0.Device.Firmware.Patch, .list 2 (p0x0.Device.Tags.map Pair.av), .list 5 (p0x0.Props.map PropS.av)]), (b19, .cells [.str v18.Name, I v18.Value.Kind, .bool v18.Value.Flag, I v18.Value.Number, .str v18.Value.Words])]⟩) ?_ ?_
                      · refine ATodo.regionM (id := 25) (A := [0, 1, 3, 7, 15, 7, 39, 7, 135, 487, 999, 2023, 4095, 8191, 16383]) 15 mixed rfl (by kernel_rfl) (by kernel_rfl) <| AM.qv (q_move rfl) rfl <| AM.qv (q_gtr rfl rfl) rfl <| AM.qv (q_move rfl) rfl <| AM.guard_dt rfl rfl rfl (fun hc => ?_) (fun hc => ?_)
                        · exact have h := iteT hc h; AM.qv (n_field_ptr rfl rfl) rfl <| AM.guard_yes rfl rfl rfl <| AM.qv (q_load_ptr rfl rfl .p0 rfl) rfl <| AM.guard_yes rfl rfl rfl <| AM.qv (n_field_ptr rfl rfl) rfl <| AM.guard_yes rfl rfl rfl <| AM.qv (q_load_ptr rfl rfl .p1 rfl) rfl <| AM.guard_yes rfl rfl rfl <| AM.qv (q_move rfl) rfl <| AM.guard_yes rfl rfl rfl <| AM.qv (q_subw rfl rfl) rfl <| AM.guard_yes rfl rfl rfl <| bndE h fun v22 e10 h => AM.qv (t_index rfl rfl rfl e10 rfl rfl) rfl <| AM.guard_yes rfl rfl rfl <| AM.qv (n_field_rptr rfl rfl) rfl <| AM.guard_yes rfl rfl rfl <| AM.qv (q_load_rptr rfl rfl rfl) rfl <| AM.guard_yes rfl rfl rfl <| AM.qv (t_sleq rfl rfl) rfl <| AM.qv (q_pick_t rfl rfl) rfl <| AM.qv (q_assign rfl) rfl <| AM.nil <| rN <| ATodo.stop <| ImpX.lq [1, 0] ⟨Op.bytesLess v18.Name v22.Name || v18.Name == v22.Name, h, rfl⟩ rfl rfl
                        · exact have h := iteF hc h; AM.guard_no rfl rfl rfl rfl <| AM.guard_no rfl rfl rfl rfl <| AM.guard_no rfl rfl rfl rfl <| AM.guard_no rfl rfl rfl rfl <| AM.guard_no rfl rfl rfl rfl <| AM.guard_no rfl rfl rfl rfl <| AM.guard_no rfl rfl rfl rfl <| AM.guard_no rfl rfl rfl rfl <| AM.guard_no rfl rfl rfl rfl <| AM.qv (q_pick_f rfl rfl) rfl <| AM.qv (q_assign rfl) rfl <| AM.nil <| rN <| ATodo.stop <| ImpX.lq [1, 0] ⟨false, h, rfl⟩ rfl rfl
                      · rintro σ' ⟨c21, h, rfl⟩
                        unfold Q_ItemFault_j4 at h
                        refine ATodo.cond rfl (fun hc => ?_) (fun hc => ?_)
                        · refine have h := iteT hc h; tSR <| rA rfl rfl <| rN <| ATodo.ret <| have h := outL h hA2; ?_
                          obtain rfl := Option.some.inj h
                          exact ImpX.here ⟨_, .cons (.tmp _ _ rfl) .nil, rfl⟩
                        · refine have h := iteFb hc h; tS <| ATodo.cut (fun σ' => ∃ (c23 : Bool), Q_ItemFault_j5 n17 c23 = some z2 ∧ σ' = ⟨131, [(1, .ptr b1 0), (92, .list 5 (p0x0.Props.map PropS.av)), (93, I (p0x0.Props.length : Int)), (94, I n17), (119, .bool c23)], [(b1, .cells [.str p0x0.Device.Key, .str p0x0.Device.Model, .str p0x0.Device.Tenant, I p0x0.Device.Firmware.Major, I p0x0.Device.Firmware.Minor, I p0x0.Device.Firmware.Patch, .list 2 (p0x0.Device.Tags.map Pair.av), .list 5 (p0x0.Props.map PropS.av)])]⟩) ?_ ?_
                          · refine tR <| rF rfl rfl rfl <| ARun.qv (n_load_ptr_part rfl rfl .p1 rfl rfl) rfl <| bndE h fun v24 e11 h => r_callp rfl (Q_RightValue_c e11) (CoL.refl _) rfl <| ARun.qv (q_not rfl) rfl <| rM rfl rfl <| ARun.guard rfl rfl rfl (fun hc => ?_) (fun hc => ?_)
                            · rw [orFb hc] at h
                              exact rF rfl rfl rfl <| rY rfl rfl rfl <| rF rfl rfl rfl <| rY rfl rfl rfl <| rL rfl rfl .p1 rfl rfl <| rY rfl rfl rfl <| ARun.qv (q_eql rfl rfl) rfl <| rE rfl rfl rfl <| rA rfl rfl <| rN <| ATodo.stop <| ImpX.lq [0] ⟨decide (v18.Value.Kind = (0 : Int)), h, rfl⟩ rfl rfl
                            · rw [orTb hc] at h
                              exact rG rfl rfl rfl rfl <| rG rfl rfl rfl rfl <| rG rfl rfl rfl rfl <| rT rfl rfl rfl <| rA rfl rfl <| rN <| ATodo.stop <| ImpX.lq [0] ⟨true, h, rfl⟩ rfl rfl
                          · rintro σ' ⟨c23, h, rfl⟩
                            unfold Q_ItemFault_j5 at h
                            refine ATodo.cond rfl (fun hc => ?_) (fun hc => ?_)
                            · refine have h := iteT hc h; tSR <| rA rfl rfl <| rN <| ATodo.ret <| have h := outL h hA2; ?_
                              obtain rfl := Option.some.inj h
                              exact ImpX.here ⟨_, .cons (.tmp _ _ rfl) .nil, rfl⟩
                            · refine have h := iteFb hc h; tK <| ATodo.blk <| ATodo.blk <| tR <| ARun.qv (q_addw rfl rfl) rfl <| rM rfl rfl <| rN <| ATodo.stop <| ?_
                              obtain rfl := Option.some.inj h
                              exact hJ2 _ _ rfl <| ImpX.lq [0] rfl rfl rfl
                  · refine have h := iteF hc h; ATodo.exit rfl <| have h := outL h hA2; tSR <| rA rfl rfl <| rN <| ATodo.ret <| ?_
                    obtain rfl := Option.some.inj h
                    exact ImpX.here ⟨_, .cons (.tmp _ _ rfl) .nil, rfl⟩

set_option maxHeartbeats 4000000 in
theorem cmp_Or_Errno_c [GI : GTab] {p0x0 : List Int} {r : Int} (h : cmp_Or_Errno p0x0 = some r) : Pu Tryz.prog 31 [.list 1 (p0x0.map I)] (I r) := by
  unfold cmp_Or_Errno at h
  refine ACall.bodyN Tryz.func31 rfl Tryz.ntmps31 Tryz.results31 rfl rfl ?_
  refine tSR <| rA rfl rfl <| rN <| tSR <| rA rfl rfl <| rN <| tS <| tSR <| rM rfl rfl <| ARun.qv (t_len rfl) rfl <| rM rfl rfl <| rN <| ATodo.block <| ATodo.loopI (fun x : Int => cmp_Or_Errno_b1 p0x0 x) (fun x σ' => σ' = ⟨18, [(3, I (0 : Int)), (6, .list 1 (p0x0.map I)), (7, I (p0x0.length : Int)), (8, I x)], []⟩) h ?_ ?_
  · exact ImpX.lq [] rfl rfl rfl
  · intro n2 z1 σ' J1 hmk h hJ1 hA1
    obtain rfl := hmk
    replace h : cmp_Or_Errno_b1 p0x0 n2 = some z1 := h
    unfold cmp_Or_Errno_b1 at h
    refine tSR <| ARun.qv (q_lss rfl rfl) rfl <| rN <| tS <| ATodo.cond_d rfl (fun hc => ?_) (fun hc => ?_)
    · refine have h := iteT hc h; tK <| tS <| ATodo.block <| tSR <| bndE h fun v3 e1 h => ARun.qv (t_index rfl rfl rfl e1 rfl rfl) rfl <| ARun.qv (q_load_rptr rfl rfl rfl) rfl <| rA rfl rfl <| rN <| tSR <| rM rfl rfl <| rM rfl rfl <| ARun.qv (q_neq rfl rfl) rfl <| rN <| ATodo.cond_d rfl (fun hc => ?_) (fun hc => ?_)
      · refine have h := iteT hc h; tSR <| rM rfl rfl <| rA rfl rfl <| rN <| ATodo.ret <| have h := outL h hA1; ?_
        obtain rfl := Option.some.inj h
        exact ImpX.here ⟨_, .cons (.tmp _ _ rfl) .nil, rfl⟩
      · refine have h := iteF hc h; tK <| ATodo.blk <| tR <| ARun.qv (q_addw rfl rfl) rfl <| rM rfl rfl <| rN <| ATodo.stop <| ?_
        obtain rfl := Option.some.inj h
        exact hJ1 _ _ rfl <| ImpX.lq [] rfl rfl rfl
    · refine have h := iteF hc h; ATodo.exit rfl <| have h := outL h hA1; tSR <| rM rfl rfl <| rA rfl rfl <| rN <| ATodo.ret <| ?_
      obtain rfl := Option.some.inj h
      exact ImpX.here ⟨_, .cons (.tmp _ _ rfl) .nil, rfl⟩

set_option maxHeartbeats 4000000 in
theorem Q_ItemsFault_c {p0x0 : List ItemS} {r : Int} (h : Q_ItemsFault p0x0 = some r) : Pu Tryz.prog 50 [.list 8 (p0x0.map ItemS.av)] (I r) := by
  unfold Q_ItemsFault at h
  refine ACall.bodyN Tryz.func50 rfl Tryz.ntmps50 Tryz.results50 rfl rfl ?_
  refine tSR <| rA rfl rfl <| rN <| tS <| tSR <| rM rfl rfl <| ARun.qv (t_len rfl) rfl <| ARun.qv (q_gtr rfl rfl) rfl <| rN <| ATodo.cond_d rfl (fun hc => ?_) (fun hc => ?_)
  · refine have h := iteT hc h; tSR <| rA rfl rfl <| rN <| ATodo.ret <| ?_
    obtain rfl := Option.some.inj h
    exact ImpX.here ⟨_, .cons (.tmp _ _ rfl) .nil, rfl⟩
  · refine have h := iteF hc h; tK <| tS <| tSR <| rM rfl rfl <| ARun.qv (t_len rfl) rfl <| rM rfl rfl <| rN <| ATodo.block <| ATodo.loopI (fun x : Int => Q_ItemsFault_b1 p0x0 x) (fun x σ' => σ' = ⟨37, [(0, .list 8 (p0x0.map ItemS.av)), (9, .list 8 (p0x0.map ItemS.av)), (10, I (p0x0.length : Int)), (11, I x)], []⟩) h ?_ ?_
    · exact ImpX.lq [] rfl rfl rfl
    · intro n2 z1 σ' J1 hmk h hJ1 hA1
      obtain rfl := hmk
      replace h : Q_ItemsFault_b1 p0x0 n2 = some z1 := h
      unfold Q_ItemsFault_b1 at h
      refine tSR <| ARun.qv (q_lss rfl rfl) rfl <| rN <| tS <| ATodo.cond_d rfl (fun hc => ?_) (fun hc => ?_)
      · refine have h := iteT hc h; tK <| tS <| ATodo.block <| tSR <| rM rfl rfl <| bndE h fun v3 e1 h => ARun.qv (t_index rfl rfl rfl e1 rfl rfl) rfl <| ARun.qv (q_load_rptr_agg rfl rfl rfl) rfl <| n_alloc rfl rfl rfl rfl fun b4 => rA rfl rfl <| n_store_ptr rfl rfl rfl rfl .p0 rfl rfl <| rN <| tS <| tSR <| ARun.qv (q_load_ptr_all rfl rfl .p0 rfl) rfl <| bndE h fun v5 e2 h => r_callp rfl (Q_ItemFault_c e2) (CoL.refl _) rfl <| rA rfl rfl <| rN <| tSR <| rM rfl rfl <| ARun.qv (q_neq rfl rfl) rfl <| rN <| ATodo.cond_d rfl (fun hc => ?_) (fun hc => ?_)
        · refine have h := iteT hc h; tSR <| rM rfl rfl <| rA rfl rfl <| rN <| ATodo.ret <| have h := outL h hA1; ?_
          obtain rfl := Option.some.inj h
          exact ImpX.here ⟨_, .cons (.tmp _ _ rfl) .nil, rfl⟩
        · refine have h := iteF hc h; tK <| tS <| ATodo.cut (fun σ' => ∃ (c6 : Bool), Q_ItemsFault_j1 n2 c6 = some z1 ∧ σ' = ⟨37, [(0, .list 8 (p0x0.map ItemS.av)), (9, .list 8 (p0x0.map ItemS.av)), (10, I (p0x0.length : Int)), (11, I n2), (35, .bool c6)], []⟩) ?_ ?_
          · refine ATodo.regionM (id := 9) (A := [0, 1, 3, 7, 15, 31, 7, 7, 135, 455, 967, 1991, 4039, 8191, 16383]) 15 mixed rfl (by kernel_rfl) (by kernel_rfl) <| AM.qv (q_move rfl) rfl <| AM.qv (q_gtr rfl rfl) rfl <| AM.qv (q_move rfl) rfl <| AM.guard_dt rfl rfl rfl (fun hc => ?_) (fun hc => ?_)
            · exact have h := iteT hc h; AM.qv (n_field_ptr rfl rfl) rfl <| AM.guard_yes rfl rfl rfl <| AM.qv (n_field_ptr rfl rfl) rfl <| AM.guard_yes rfl rfl rfl <| AM.qv (q_load_ptr rfl rfl .p0 rfl) rfl <| AM.guard_yes rfl rfl rfl <| AM.qv (q_move rfl) rfl <| AM.guard_yes rfl rfl rfl <| AM.qv (q_move rfl) rfl <| AM.guard_yes rfl rfl rfl <| AM.qv (q_subw rfl rfl) rfl <| AM.guard_yes rfl rfl rfl <| bndE h fun v7 e3 h => AM.qv (t_index rfl rfl rfl e3 rfl rfl) rfl <| AM.guard_yes rfl rfl rfl <| AM.qv (n_field_rptr rfl rfl) rfl <| AM.guard_yes rfl rfl rfl <| AM.qv (n_field_rptr rfl rfl) rfl <| AM.guard_yes rfl rfl rfl <| AM.qv (q_load_rptr rfl rfl rfl) rfl <| AM.guard_yes rfl rfl rfl <| AM.qv (t_sleq rfl rfl) rfl <| AM.qv (q_pick_t rfl rfl) rfl <| AM.nil <| rN <| ATodo.stop <| ImpX.lq [] ⟨Op.bytesLess v3.Device.Key v7.Device.Key || v3.Device.Key == v7.Device.Key, h, rfl⟩ rfl rfl
            · exact have h := iteF hc h; AM.guard_no rfl rfl rfl rfl <| AM.guard_no rfl rfl rfl rfl <| AM.guard_no rfl rfl rfl rfl <| AM.guard_no rfl rfl rfl rfl <| AM.guard_no rfl rfl rfl rfl <| AM.guard_no rfl rfl rfl rfl <| AM.guard_no rfl rfl rfl rfl <| AM.guard_no rfl rfl rfl rfl <| AM.guard_no rfl rfl rfl rfl <| AM.guard_no rfl rfl rfl rfl <| AM.qv (q_pick_f rfl rfl) rfl <| AM.nil <| rN <| ATodo.stop <| ImpX.lq [] ⟨false, h, rfl⟩ rfl rfl
          · rintro σ' ⟨c6, h, rfl⟩
            unfold Q_ItemsFault_j1 at h
            refine ATodo.cond rfl (fun hc => ?_) (fun hc => ?_)
            · refine have h := iteT hc h; tSR <| rA rfl rfl <| rN <| ATodo.ret <| have h := outL h hA1; ?_
              obtain rfl := Option.some.inj h
              exact ImpX.here ⟨_, .cons (.tmp _ _ rfl) .nil, rfl⟩
            · refine have h := iteFb hc h; tK <| ATodo.blk <| tR <| ARun.qv (q_addw rfl rfl) rfl <| rM rfl rfl <| rN <| ATodo.stop <| ?_
              obtain rfl := Option.some.inj h
              exact hJ1 _ _ rfl <| ImpX.lq [] rfl rfl rfl
      · refine have h := iteF hc h; ATodo.exit rfl <| have h := outL h hA1; tSR <| rA rfl rfl <| rN <| ATodo.ret <| ?_
        obtain rfl := Option.some.inj h
        exact ImpX.here ⟨_, .cons (.tmp _ _ rfl) .nil, rfl⟩

set_option maxHeartbeats 4000000 in
theorem Q_MatchesItem_1x_1x_c [GI : GTab] {self : Query → ItemS → Option Bool} (self_h : ∀ {p0x0 : Query} {p1x0 : ItemS} {r : Bool}, self p0x0 p1x0 = some r → Pu Tryz.prog 51 [.agg [I p0x0.Kind, .str p0x0.Field, .str p0x0.Op, I p0x0.Value.Kind, .bool p0x0.Value.Flag, I p0x0.Value.Number, .str p0x0.Value.Words, I p0x0.Version.Major, I p0x0.Version.Minor, I p0x0.Version.Patch, .list 11 (p0x0.Kids.map Query.av)], .agg [.str p1x0.Device.Key, .str p1x0.Device.Model, .str p1x0.Device.Tenant, I p1x0.Device.Firmware.Major, I p1x0.Device.Firmware.Minor, I p1x0.Device.Firmware.Patch, .list 2 (p1x0.Device.Tags.map Pair.av), .list 5 (p1x0.Props.map PropS.av)]] (.bool r)) {p0x0 : Query} {p1x0 : ItemS} {p2x0 : Bool} {r : Bool} (h : Q_MatchesItem_1x_1x self p0x0 p1x0 p2x0 = some r) : Pu Tryz.prog 129 [.agg [I p0x0.Kind, .str p0x0.Field, .str p0x0.Op, I p0x0.Value.Kind, .bool p0x0.Value.Flag, I p0x0.Value.Number, .str p0x0.Value.Words, I p0x0.Version.Major, I p0x0.Version.Minor, I p0x0.Version.Patch, .list 11 (p0x0.Kids.map Query.av)], .rptr [.str p1x0.Device.Key, .str p1x0.Device.Model, .str p1x0.Device.Tenant, I p1x0.Device.Firmware.Major, I p1x0.Device.Firmware.Minor, I p1x0.Device.Firmware.Patch, .list 2 (p1x0.Device.Tags.map Pair.av), .list 5 (p1x0.Props.map PropS.av)], .rptr [.bool p2x0]] (.bool r) := by
  unfold Q_MatchesItem_1x_1x at h
  refine ACall.bodyN Tryz.func129 rfl Tryz.ntmps129 Tryz.results129 rfl rfl ?_
  refine tSR <| n_box rfl rfl rfl rfl fun b1 => rA rfl rfl <| rN <| tS <| ATodo.regionM (id := 1) (A := [0, 0, 3, 0, 15, 31]) 6 mixed rfl (by kernel_rfl) (by kernel_rfl) <| AM.qv (q_load_ptr_all rfl rfl .p0 rfl) rfl <| AM.qv (q_load_rptr_agg rfl rfl rfl) rfl <| bndE h fun v2 e1 h => AM.callp rfl (self_h e1) (CoL.refl _) rfl <| AM.qv (q_load_rptr rfl rfl rfl) rfl <| AM.qv (q_bne rfl rfl) rfl <| AM.qv (q_assign rfl) rfl <| AM.nil <| rN <| ATodo.ret <| ?_
  obtain rfl := Option.some.inj h
  exact ImpX.here ⟨_, .cons (.tmp _ _ rfl) .nil, rfl⟩

set_option maxHeartbeats 4000000 in
theorem Q_MatchesItem_1x_c [GI : GTab] {self : Query → ItemS → Option Bool} (self_h : ∀ {p0x0 : Query} {p1x0 : ItemS} {r : Bool}, self p0x0 p1x0 = some r → Pu Tryz.prog 51 [.agg [I p0x0.Kind, .str p0x0.Field, .str p0x0.Op, I p0x0.Value.Kind, .bool p0x0.Value.Flag, I p0x0.Value.Number, .str p0x0.Value.Words, I p0x0.Version.Major, I p0x0.Version.Minor, I p0x0.Version.Patch, .list 11 (p0x0.Kids.map Query.av)], .agg [.str p1x0.Device.Key, .str p1x0.Device.Model, .str p1x0.Device.Tenant, I p1x0.Device.Firmware.Major, I p1x0.Device.Firmware.Minor, I p1x0.Device.Firmware.Patch, .list 2 (p1x0.Device.Tags.map Pair.av), .list 5 (p1x0.Props.map PropS.av)]] (.bool r)) {p0x0 : Bool} {p1x0 : Query} {p2x0 : ItemS} {r : Bool} (h : Q_MatchesItem_1x self p0x0 p1x0 p2x0 = some r) : Pu Tryz.prog 127 [.bool p0x0, .rptr [I p1x0.Kind, .str p1x0.Field, .str p1x0.Op, I p1x0.Value.Kind, .bool p1x0.Value.Flag, I p1x0.Value.Number, .str p1x0.Value.Words, I p1x0.Version.Major, I p1x0.Version.Minor, I p1x0.Version.Patch, .list 11 (p1x0.Kids.map Query.av)], .rptr [.str p2x0.Device.Key, .str p2x0.Device.Model, .str p2x0.Device.Tenant, I p2x0.Device.Firmware.Major, I p2x0.Device.Firmware.Minor, I p2x0.Device.Firmware.Patch, .list 2 (p2x0.Device.Tags.map Pair.av), .list 5 (p2x0.Props.map PropS.av)]] (.bool r) := by
  unfold Q_MatchesItem_1x at h
  refine ACall.bodyN Tryz.func127 rfl Tryz.ntmps127 Tryz.results127 rfl rfl ?_
  refine tSR <| n_box rfl rfl rfl rfl fun b1 => rA rfl rfl <| rN <| tSR <| ARun.qv (n_field_rptr rfl rfl) rfl <| ARun.qv (q_load_rptr rfl rfl rfl) rfl <| ARun.qv (q_makeFunc rfl) rfl <| bndE h fun v2 e1 h => r_callpB rfl (slices_ContainsFunc_Query_Query_c (fun e => Q_MatchesItem_1x_1x_c self_h e) e1) (.cons (.co (.refl _)) (.cons (.funcL _ _ _ (.cons (.co (.refl _)) (.cons (.boxL _ _ _ .p0 (.cons (.co (.refl _)) .nil)) .nil))) .nil)) rfl rfl <| ARun.qv (q_not rfl) rfl <| rA rfl rfl <| rN <| ATodo.ret <| ?_
  obtain rfl := Option.some.inj h
  exact ImpX.here ⟨_, .cons (.tmp _ _ rfl) .nil, rfl⟩

set_option maxHeartbeats 4000000 in
theorem Q_fieldOf_c [GI : GTab] {p0x0 : ItemS} {p1x0 : Str} {r : ValueS} (h : Q_fieldOf p0x0 p1x0 = some r) : Pu Tryz.prog 130 [.agg [.str p0x0.Device.Key, .str p0x0.Device.Model, .str p0x0.Device.Tenant, I p0x0.Device.Firmware.Major, I p0x0.Device.Firmware.Minor, I p0x0.Device.Firmware.Patch, .list 2 (p0x0.Device.Tags.map Pair.av), .list 5 (p0x0.Props.map PropS.av)], .str p1x0] (.agg [I r.Kind, .bool r.Flag, I r.Number, .str r.Words]) := by
  unfold Q_fieldOf at h
  refine ACall.bodyN Tryz.func130 rfl Tryz.ntmps130 Tryz.results130 rfl rfl ?_
  refine tSR <| n_box rfl rfl rfl rfl fun b1 => n_alloc rfl rfl rfl rfl fun b2 => rN <| tS <| tSR <| rM rfl rfl <| rN <| ATodo.block <| tSR <| ARun.qv (q_seq rfl rfl) rfl <| rA rfl rfl <| rN <| ATodo.cond_d rfl (fun hc => ?_) (fun hc => ?_)
  · refine have h := iteT hc h; tSR <| rF rfl rfl rfl <| rF rfl rfl rfl <| rL rfl rfl .p1 rfl rfl <| ARun.qv (n_build rfl rfl rfl rfl rfl) rfl <| n_store_ptr rfl rfl rfl rfl .p0 rfl rfl <| rN <| ATodo.ret <| ?_
    obtain rfl := Option.some.inj h
    exact ImpX.here ⟨_, .cons (.all _ _ _ _ _ _ rfl .p0 TUnder.h TInfo.h rfl rfl) .nil, rfl⟩
  · refine have h := iteF hc h; tSR <| ARun.qv (q_seq rfl rfl) rfl <| rA rfl rfl <| rN <| ATodo.cond_d rfl (fun hc => ?_) (fun hc => ?_)
    · refine have h := iteT hc h; tSR <| rF rfl rfl rfl <| rF rfl rfl rfl <| rL rfl rfl .p1 rfl rfl <| ARun.qv (n_build rfl rfl rfl rfl rfl) rfl <| n_store_ptr rfl rfl rfl rfl .p0 rfl rfl <| rN <| ATodo.ret <| ?_
      obtain rfl := Option.some.inj h
      exact ImpX.here ⟨_, .cons (.all _ _ _ _ _ _ rfl .p0 TUnder.h TInfo.h rfl rfl) .nil, rfl⟩
    · refine have h := iteF hc h; tSR <| ARun.qv (q_seq rfl rfl) rfl <| rA rfl rfl <| rN <| ATodo.cond_d rfl (fun hc => ?_) (fun hc => ?_)
      · refine have h := iteT hc h; tSR <| rF rfl rfl rfl <| rF rfl rfl rfl <| rL rfl rfl .p1 rfl rfl <| ARun.qv (n_build rfl rfl rfl rfl rfl) rfl <| n_store_ptr rfl rfl rfl rfl .p0 rfl rfl <| rN <| ATodo.ret <| ?_
        obtain rfl := Option.some.inj h
        exact ImpX.here ⟨_, .cons (.all _ _ _ _ _ _ rfl .p0 TUnder.h TInfo.h rfl rfl) .nil, rfl⟩
      · refine have h := iteF hc h; tK <| ATodo.blk <| tS <| tSR <| rF rfl rfl rfl <| rF rfl rfl rfl <| rL rfl rfl .p1 rfl rfl <| ARun.qv (t_len rfl) rfl <| rM rfl rfl <| rN <| ATodo.block <| ATodo.loopI (fun x : Int => Q_fieldOf_b1 p0x0 p1x0 x) (fun x σ' => σ' = ⟨61, [(1, .str p1x0), (2, .ptr b1 0), (4, .ptr b2 0), (30, .list 2 (p0x0.Device.Tags.map Pair.av)), (31, I (p0x0.Device.Tags.length : Int)), (32, I x)], [(b1, .cells [.str p0x0.Device.Key, .str p0x0.Device.Model, .str p0x0.Device.Tenant, I p0x0.Device.Firmware.Major, I p0x0.Device.Firmware.Minor, I p0x0.Device.Firmware.Patch, .list 2 (p0x0.Device.Tags.map Pair.av), .list 5 (p0x0.Props.map PropS.av)]), (b2, .cells [I (0 : Int), .bool false, I (0 : Int), .str []])]⟩) h ?_ ?_
        · exact ImpX.lq [1, 0] rfl rfl rfl
        · intro n4 z1 σ' J1 hmk h hJ1 hA1
          obtain rfl := hmk
          replace h : Q_fieldOf_b1 p0x0 p1x0 n4 = some z1 := h
          unfold Q_fieldOf_b1 at h
          refine tSR <| ARun.qv (q_lss rfl rfl) rfl <| rN <| tS <| ATodo.cond_d rfl (fun hc => ?_) (fun hc => ?_)
          · refine have h := iteT hc h; tK <| tS <| ATodo.block <| tSR <| bndE h fun v5 e1 h => ARun.qv (t_index rfl rfl rfl e1 rfl rfl) rfl <| ARun.qv (q_load_rptr_agg rfl rfl rfl) rfl <| n_alloc rfl rfl rfl rfl fun b6 => n_store_ptr rfl rfl rfl rfl .p0 rfl rfl <| rN <| tSR <| rM rfl rfl <| rF rfl rfl rfl <| rL rfl rfl .p0 rfl rfl <| bndE h fun q7 e2 h => ARun.qv (q_sadd e2 rfl rfl) rfl <| ARun.qv (q_seq rfl rfl) rfl <| rN <| ATodo.cond_d rfl (fun hc => ?_) (fun hc => ?_)
            · refine have h := iteT hc h; tSR <| rF rfl rfl rfl <| rL rfl rfl .p0 rfl rfl <| ARun.qv (n_build rfl rfl rfl rfl rfl) rfl <| n_store_ptr rfl rfl rfl rfl .p2 rfl rfl <| rN <| ATodo.ret <| have h := outL h hA1; ?_
              obtain rfl := Option.some.inj h
              exact ImpX.here ⟨_, .cons (.all _ _ _ _ _ _ rfl .p2 TUnder.h TInfo.h rfl rfl) .nil, rfl⟩
            · refine have h := iteF hc h; tK <| ATodo.blk <| tR <| ARun.qv (q_addw rfl rfl) rfl <| rM rfl rfl <| rN <| ATodo.stop <| ?_
              obtain rfl := Option.some.inj h
              exact hJ1 _ _ rfl <| ImpX.lq [1, 1] rfl rfl rfl
          · refine have h := iteF hc h; ATodo.exit rfl <| have h := outL h hA1; tS <| tSR <| rF rfl rfl rfl <| rL rfl rfl .p0 rfl rfl <| ARun.qv (t_len rfl) rfl <| rM rfl rfl <| rN <| ATodo.block <| ATodo.loopI (fun x : Int => Q_fieldOf_b2 p0x0 p1x0 x) (fun x σ' => σ' = ⟨61, [(1, .str p1x0), (4, .ptr b2 0), (46, .list 5 (p0x0.Props.map PropS.av)), (47, I (p0x0.Props.length : Int)), (48, I x)], [(b2, .cells [I (0 : Int), .bool false, I (0 : Int), .str []])]⟩) h ?_ ?_
            · exact ImpX.lq [1] rfl rfl rfl
            · intro n9 z2 σ' J2 hmk h hJ2 hA2
              obtain rfl := hmk
              replace h : Q_fieldOf_b2 p0x0 p1x0 n9 = some z2 := h
              unfold Q_fieldOf_b2 at h
              refine tSR <| ARun.qv (q_lss rfl rfl) rfl <| rN <| tS <| ATodo.cond_d rfl (fun hc => ?_) (fun hc => ?_)
              · refine have h := iteT hc h; tK <| tS <| ATodo.block <| tSR <| bndE h fun v10 e3 h => ARun.qv (t_index rfl rfl rfl e3 rfl rfl) rfl <| ARun.qv (q_load_rptr_agg rfl rfl rfl) rfl <| n_alloc rfl rfl rfl rfl fun b11 => n_store_ptr rfl rfl rfl rfl .p0 rfl rfl <| rN <| tSR <| rM rfl rfl <| rF rfl rfl rfl <| rL rfl rfl .p0 rfl rfl <| bndE h fun q12 e4 h => ARun.qv (q_sadd e4 rfl rfl) rfl <| ARun.qv (q_seq rfl rfl) rfl <| rN <| ATodo.cond_d rfl (fun hc => ?_) (fun hc => ?_)
                · refine have h := iteT hc h; tSR <| rF rfl rfl rfl <| ARun.qv (n_load_ptr_part rfl rfl .p0 rfl rfl) rfl <| n_store_ptr rfl rfl rfl rfl .p1 rfl rfl <| rN <| ATodo.ret <| have h := outL h hA2; ?_
                  obtain rfl := Option.some.inj h
                  exact ImpX.here ⟨_, .cons (.all _ _ _ _ _ _ rfl .p1 TUnder.h TInfo.h rfl rfl) .nil, rfl⟩
                · refine have h := iteF hc h; tK <| ATodo.blk <| tR <| ARun.qv (q_addw rfl rfl) rfl <| rM rfl rfl <| rN <| ATodo.stop <| ?_
                  obtain rfl := Option.some.inj h
                  exact hJ2 _ _ rfl <| ImpX.lq [1] rfl rfl rfl
              · refine have h := iteF hc h; ATodo.exit rfl <| have h := outL h hA2; tSR <| ARun.qv (n_build rfl rfl rfl rfl rfl) rfl <| n_store_ptr rfl rfl rfl rfl .p0 rfl rfl <| rN <| ATodo.ret <| ?_
                obtain rfl := Option.some.inj h
                exact ImpX.here ⟨_, .cons (.all _ _ _ _ _ _ rfl .p0 TUnder.h TInfo.h rfl rfl) .nil, rfl⟩

set_option maxHeartbeats 4000000 in
theorem Q_versionOrder_c [GI : GTab] {p0x0 : Version} {p1x0 : Version} {r : Int} (h : Q_versionOrder p0x0 p1x0 = some r) : Pu Tryz.prog 132 [.agg [I p0x0.Major, I p0x0.Minor, I p0x0.Patch], .agg [I p1x0.Major, I p1x0.Minor, I p1x0.Patch]] (I r) := by
  unfold Q_versionOrder at h
  refine ACall.bodyN Tryz.func132 rfl Tryz.ntmps132 Tryz.results132 rfl rfl ?_
  refine tSR <| n_box rfl rfl rfl rfl fun b1 => n_box rfl rfl rfl rfl fun b2 => rA rfl rfl <| rN <| tS <| ATodo.regionM (id := 1) (A := [0, 1, 0, 4, 15, 0, 32, 0, 128, 511, 0, 1024, 0, 4096, 16383, 32767, 65535, 131071]) 18 mixed rfl (by kernel_rfl) (by kernel_rfl) <| AM.qv (n_field_ptr rfl rfl) rfl <| AM.qv (q_load_ptr rfl rfl .p1 rfl) rfl <| AM.qv (n_field_ptr rfl rfl) rfl <| AM.qv (q_load_ptr rfl rfl .p0 rfl) rfl <| AM.callp rfl (cmp_Compare_int_c rfl) (CoL.refl _) rfl <| AM.qv (n_field_ptr rfl rfl) rfl <| AM.qv (q_load_ptr rfl rfl .p1 rfl) rfl <| AM.qv (n_field_ptr rfl rfl) rfl <| AM.qv (q_load_ptr rfl rfl .p0 rfl) rfl <| AM.callp rfl (cmp_Compare_int_c rfl) (CoL.refl _) rfl <| AM.qv (n_field_ptr rfl rfl) rfl <| AM.qv (q_load_ptr rfl rfl .p1 rfl) rfl <| AM.qv (n_field_ptr rfl rfl) rfl <| AM.qv (q_load_ptr rfl rfl .p0 rfl) rfl <| AM.callp rfl (cmp_Compare_int_c rfl) (CoL.refl _) rfl <| AM.buildSliceL (xs := ([(cmp_Compare_int p0x0.Major p1x0.Major), (cmp_Compare_int p0x0.Minor p1x0.Minor), (cmp_Compare_int p0x0.Patch p1x0.Patch)] : List Int).map I) rfl rfl rfl rfl rfl rfl <| bndE h fun v3 e1 h => AM.callp rfl (cmp_Or_int_c e1) (CoL.refl _) rfl <| AM.qv (q_assign rfl) rfl <| AM.nil <| rN <| ATodo.ret <| ?_
  obtain rfl := Option.some.inj h
  exact ImpX.here ⟨_, .cons (.tmp _ _ rfl) .nil, rfl⟩

set_option maxHeartbeats 4000000 in
theorem Q_compares_c [GI : GTab] {p0x0 : Str} {p1x0 : Int} {r : Bool} (h : Q_compares p0x0 p1x0 = some r) : Pu Tryz.prog 131 [.str p0x0, I p1x0] (.bool r) := by
  unfold Q_compares at h
  refine ACall.bodyN Tryz.func131 rfl Tryz.ntmps131 Tryz.results131 rfl rfl ?_
  refine tSR <| rA rfl rfl <| rN <| tSR <| t_makeMap rfl fun b1 => rM rfl rfl <| ARun.qv (q_eql rfl rfl) rfl <| t_insert (gk := AV.str) (gv := AV.bool) (M := ([] : List (Str × Bool))) (key := ([61, 61] : Str)) (v := decide (p1x0 = (0 : Int))) rfl rfl rfl rfl .p0 <| rM rfl rfl <| ARun.qv (q_neq rfl rfl) rfl <| t_insert (gk := AV.str) (gv := AV.bool) (M := (mset ([] : List (Str × Bool)) ([61, 61] : Str) (decide (p1x0 = (0 : Int))))) (key := ([33, 61] : Str)) (v := decide (p1x0 ≠ (0 : Int))) rfl rfl rfl rfl .p0 <| rM rfl rfl <| ARun.qv (q_lss rfl rfl) rfl <| t_insert (gk := AV.str) (gv := AV.bool) (M := (mset (mset ([] : List (Str × Bool)) ([61, 61] : Str) (decide (p1x0 = (0 : Int)))) ([33, 61] : Str) (decide (p1x0 ≠ (0 : Int))))) (key := ([60] : Str)) (v := decide (p1x0 < (0 : Int))) rfl rfl rfl rfl .p0 <| rM rfl rfl <| ARun.qv (q_leq rfl rfl) rfl <| t_insert (gk := AV.str) (gv := AV.bool) (M := (mset (mset (mset ([] : List (Str × Bool)) ([61, 61] : Str) (decide (p1x0 = (0 : Int)))) ([33, 61] : Str) (decide (p1x0 ≠ (0 : Int)))) ([60] : Str) (decide (p1x0 < (0 : Int))))) (key := ([60, 61] : Str)) (v := decide (p1x0 ≤ (0 : Int))) rfl rfl rfl rfl .p0 <| rM rfl rfl <| ARun.qv (q_gtr rfl rfl) rfl <| t_insert (gk := AV.str) (gv := AV.bool) (M := (mset (mset (mset (mset ([] : List (Str × Bool)) ([61, 61] : Str) (decide (p1x0 = (0 : Int)))) ([33, 61] : Str) (decide (p1x0 ≠ (0 : Int)))) ([60] : Str) (decide (p1x0 < (0 : Int)))) ([60, 61] : Str) (decide (p1x0 ≤ (0 : Int))))) (key := ([62] : Str)) (v := decide ((0 : Int) < p1x0)) rfl rfl rfl rfl .p0 <| rM rfl rfl <| ARun.qv (q_geq rfl rfl) rfl <| t_insert (gk := AV.str) (gv := AV.bool) (M := (mset (mset (mset (mset (mset ([] : List (Str × Bool)) ([61, 61] : Str) (decide (p1x0 = (0 : Int)))) ([33, 61] : Str) (decide (p1x0 ≠ (0 : Int)))) ([60] : Str) (decide (p1x0 < (0 : Int)))) ([60, 61] : Str) (decide (p1x0 ≤ (0 : Int)))) ([62] : Str) (decide ((0 : Int) < p1x0)))) (key := ([62, 61] : Str)) (v := decide ((0 : Int) ≤ p1x0)) rfl rfl rfl rfl .p0 <| rM rfl rfl <| rM rfl rfl <| bndE h fun v2 e1 h => ARun.qv (t_lookup (gk := AV.str) (gv := AV.bool) (M := (mset (mset (mset (mset (mset (mset ([] : List (Str × Bool)) ([61, 61] : Str) (decide (p1x0 = (0 : Int)))) ([33, 61] : Str) (decide (p1x0 ≠ (0 : Int)))) ([60] : Str) (decide (p1x0 < (0 : Int)))) ([60, 61] : Str) (decide (p1x0 ≤ (0 : Int)))) ([62] : Str) (decide ((0 : Int) < p1x0))) ([62, 61] : Str) (decide ((0 : Int) ≤ p1x0)))) (key := p0x0) (Z := false) rfl rfl .p0 rfl rfl rfl e1 rfl) rfl <| rA rfl rfl <| rN <| ATodo.ret <| ?_
  obtain rfl := Option.some.inj h
  exact ImpX.here ⟨_, .cons (.tmp _ _ rfl) .nil, rfl⟩

set_option maxHeartbeats 4000000 in
theorem Q_MatchesItem_bd_c [GI : GTab] {self : Query → ItemS → Option Bool} (self_h : ∀ {p0x0 : Query} {p1x0 : ItemS} {r : Bool}, self p0x0 p1x0 = some r → Pu Tryz.prog 51 [.agg [I p0x0.Kind, .str p0x0.Field, .str p0x0.Op, I p0x0.Value.Kind, .bool p0x0.Value.Flag, I p0x0.Value.Number, .str p0x0.Value.Words, I p0x0.Version.Major, I p0x0.Version.Minor, I p0x0.Version.Patch, .list 11 (p0x0.Kids.map Query.av)], .agg [.str p1x0.Device.Key, .str p1x0.Device.Model, .str p1x0.Device.Tenant, I p1x0.Device.Firmware.Major, I p1x0.Device.Firmware.Minor, I p1x0.Device.Firmware.Patch, .list 2 (p1x0.Device.Tags.map Pair.av), .list 5 (p1x0.Props.map PropS.av)]] (.bool r)) {p0x0 : Query} {p1x0 : ItemS} {r : Bool} (h : Q_MatchesItem_bd self p0x0 p1x0 = some r) : Pu Tryz.prog 51 [.agg [I p0x0.Kind, .str p0x0.Field, .str p0x0.Op, I p0x0.Value.Kind, .bool p0x0.Value.Flag, I p0x0.Value.Number, .str p0x0.Value.Words, I p0x0.Version.Major, I p0x0.Version.Minor, I p0x0.Version.Patch, .list 11 (p0x0.Kids.map Query.av)], .agg [.str p1x0.Device.Key, .str p1x0.Device.Model, .str p1x0.Device.Tenant, I p1x0.Device.Firmware.Major, I p1x0.Device.Firmware.Minor, I p1x0.Device.Firmware.Patch, .list 2 (p1x0.Device.Tags.map Pair.av), .list 5 (p1x0.Props.map PropS.av)]] (.bool r) := by
  unfold Q_MatchesItem_bd at h
  refine ACall.bodyN Tryz.func51 rfl Tryz.ntmps51 Tryz.results51 rfl rfl ?_
  refine tSR <| n_box rfl rfl rfl rfl fun b1 => n_box rfl rfl rfl rfl fun b2 => rA rfl rfl <| rN <| tSR <| ARun.qv (q_makeFunc rfl) rfl <| rA rfl rfl <| rN <| tS <| tSR <| rF rfl rfl rfl <| rL rfl rfl .p1 rfl rfl <| rN <| ATodo.block <| tSR <| ARun.qv (q_eql rfl rfl) rfl <| rA rfl rfl <| rN <| ATodo.cond_d rfl (fun hc => ?_) (fun hc => ?_)
  · refine have h := iteT hc h; tS <| ATodo.regionM (id := 4) (A := [0, 1, 3, 7, 0, 31, 63, 127]) 8 mixed rfl (by kernel_rfl) (by kernel_rfl) <| AM.qv (n_field_ptr rfl rfl) rfl <| AM.qv (q_load_ptr rfl rfl .p1 rfl) rfl <| bndE h fun v3 e1 h => AM.qv (t_index rfl rfl rfl e1 rfl (by rw [Query.av_eq]; rfl)) rfl <| AM.qv (q_load_rptr_agg rfl rfl rfl) rfl <| AM.qv (q_load_ptr_all rfl rfl .p0 rfl) rfl <| bndE h fun v4 e2 h => AM.callp rfl (self_h e2) (CoL.refl _) rfl <| AM.qv (q_not rfl) rfl <| AM.qv (q_assign rfl) rfl <| AM.nil <| rN <| ATodo.ret <| ?_
    obtain rfl := Option.some.inj h
    exact ImpX.here ⟨_, .cons (.tmp _ _ rfl) .nil, rfl⟩
  · refine have h := iteF hc h; tSR <| ARun.qv (q_eql rfl rfl) rfl <| rA rfl rfl <| rN <| ATodo.cond_d rfl (fun hc => ?_) (fun hc => ?_)
    · refine have h := iteT hc h; tSR <| rM rfl rfl <| bndE h fun v5 e3 h => r_callvpB rfl rfl (Q_MatchesItem_1x_c self_h e3) (.cons (.co (.refl _)) (.cons (.boxL _ _ _ .p1 (.cons (.co (.refl _)) (.cons (.co (.refl _)) (.cons (.co (.refl _)) (.cons (.co (.refl _)) (.cons (.co (.refl _)) (.cons (.co (.refl _)) (.cons (.co (.refl _)) (.cons (.co (.refl _)) (.cons (.co (.refl _)) (.cons (.co (.refl _)) (.cons (.co (.refl _)) .nil)))))))))))) (.cons (.boxL _ _ _ .p0 (.cons (.co (.refl _)) (.cons (.co (.refl _)) (.cons (.co (.refl _)) (.cons (.co (.refl _)) (.cons (.co (.refl _)) (.cons (.co (.refl _)) (.cons (.co (.refl _)) (.cons (.co (.refl _)) .nil))))))))) .nil))) rfl rfl <| rA rfl rfl <| rN <| ATodo.ret <| ?_
      obtain rfl := Option.some.inj h
      exact ImpX.here ⟨_, .cons (.tmp _ _ rfl) .nil, rfl⟩
    · refine have h := iteF hc h; tSR <| ARun.qv (q_eql rfl rfl) rfl <| rA rfl rfl <| rN <| ATodo.cond_d rfl (fun hc => ?_) (fun hc => ?_)
      · refine have h := iteT hc h; tSR <| rM rfl rfl <| bndE h fun v6 e4 h => r_callvpB rfl rfl (Q_MatchesItem_1x_c self_h e4) (.cons (.co (.refl _)) (.cons (.boxL _ _ _ .p1 (.cons (.co (.refl _)) (.cons (.co (.refl _)) (.cons (.co (.refl _)) (.cons (.co (.refl _)) (.cons (.co (.refl _)) (.cons (.co (.refl _)) (.cons (.co (.refl _)) (.cons (.co (.refl _)) (.cons (.co (.refl _)) (.cons (.co (.refl _)) (.cons (.co (.refl _)) .nil)))))))))))) (.cons (.boxL _ _ _ .p0 (.cons (.co (.refl _)) (.cons (.co (.refl _)) (.cons (.co (.refl _)) (.cons (.co (.refl _)) (.cons (.co (.refl _)) (.cons (.co (.refl _)) (.cons (.co (.refl _)) (.cons (.co (.refl _)) .nil))))))))) .nil))) rfl rfl <| ARun.qv (q_not rfl) rfl <| rA rfl rfl <| rN <| ATodo.ret <| ?_
        obtain rfl := Option.some.inj h
        exact ImpX.here ⟨_, .cons (.tmp _ _ rfl) .nil, rfl⟩
      · refine have h := iteF hc h; tSR <| ARun.qv (q_eql rfl rfl) rfl <| rA rfl rfl <| rN <| ATodo.cond_d rfl (fun hc => ?_) (fun hc => ?_)
        · refine have h := iteT hc h; tSR <| ARun.qv (q_load_ptr_all rfl rfl .p0 rfl) rfl <| rF rfl rfl rfl <| rL rfl rfl .p1 rfl rfl <| bndE h fun v7 e5 h => r_callp rfl (Q_fieldOf_c e5) (CoL.refl _) rfl <| ARun.qv (q_fieldv1 (ft := 3) (off := 0) ⟨_, _, Tryz.underlying76, rfl, rfl, rfl⟩ rfl rfl rfl) rfl <| ARun.qv (q_neq rfl rfl) rfl <| rA rfl rfl <| rN <| ATodo.ret <| ?_
          obtain rfl := Option.some.inj h
          exact ImpX.here ⟨_, .cons (.tmp _ _ rfl) .nil, rfl⟩
        · refine have h := iteF hc h; tK <| ATodo.blk <| tS <| tSR <| rF rfl rfl rfl <| rL rfl rfl .p1 rfl rfl <| ARun.qv (q_seq rfl rfl) rfl <| rN <| ATodo.cond_d rfl (fun hc => ?_) (fun hc => ?_)
          · refine have h := iteT hc h; tS <| ATodo.regionM (id := 12) (A := [0, 1, 0, 4, 12, 0, 32, 124, 255, 511]) 10 mixed rfl (by kernel_rfl) (by kernel_rfl) <| AM.qv (n_field_ptr rfl rfl) rfl <| AM.qv (q_load_ptr rfl rfl .p1 rfl) rfl <| AM.qv (n_field_ptr rfl rfl) rfl <| AM.qv (n_field_ptr rfl rfl) rfl <| AM.qv (n_load_ptr_part rfl rfl .p0 rfl rfl) rfl <| AM.qv (n_field_ptr rfl rfl) rfl <| AM.qv (n_load_ptr_part rfl rfl .p1 rfl rfl) rfl <| bndE h fun v8 e6 h => AM.callp rfl (Q_versionOrder_c e6) (CoL.refl _) rfl <| bndE h fun v9 e7 h => AM.callp rfl (Q_compares_c e7) (CoL.refl _) rfl <| AM.qv (q_assign rfl) rfl <| AM.nil <| rN <| ATodo.ret <| ?_
            obtain rfl := Option.some.inj h
            exact ImpX.here ⟨_, .cons (.tmp _ _ rfl) .nil, rfl⟩
          · refine have h := iteF hc h; tK <| tSR <| ARun.qv (q_load_ptr_all rfl rfl .p0 rfl) rfl <| rF rfl rfl rfl <| rL rfl rfl .p1 rfl rfl <| bndE h fun v10 e8 h => r_callp rfl (Q_fieldOf_c e8) (CoL.refl _) rfl <| n_alloc rfl rfl rfl rfl fun b11 => n_store_ptr rfl rfl rfl rfl .p0 rfl rfl <| rN <| tS <| tSR <| rF rfl rfl rfl <| rL rfl rfl .p0 rfl rfl <| rF rfl rfl rfl <| rF rfl rfl rfl <| rL rfl rfl .p2 rfl rfl <| ARun.qv (q_neq rfl rfl) rfl <| rN <| ATodo.cond_d rfl (fun hc => ?_) (fun hc => ?_)
            · refine have h := iteT hc h; tSR <| rA rfl rfl <| rN <| ATodo.ret <| ?_
              obtain rfl := Option.some.inj h
              exact ImpX.here ⟨_, .cons (.tmp _ _ rfl) .nil, rfl⟩
            · refine have h := iteF hc h; tK <| tS <| ATodo.regionM (id := 16) (A := [0, 1, 0, 4, 12, 31, 0, 64, 0, 256, 768, 2047, 4095, 8191, 16383]) 15 mixed rfl (by kernel_rfl) (by kernel_rfl) <| AM.qv (n_field_ptr rfl rfl) rfl <| AM.qv (q_load_ptr rfl rfl .p0 rfl) rfl <| AM.qv (n_field_ptr rfl rfl) rfl <| AM.qv (n_field_ptr rfl rfl) rfl <| AM.qv (q_load_ptr rfl rfl .p2 rfl) rfl <| AM.callp rfl (cmp_Compare_int_c rfl) (CoL.refl _) rfl <| AM.qv (n_field_ptr rfl rfl) rfl <| AM.qv (q_load_ptr rfl rfl .p0 rfl) rfl <| AM.qv (n_field_ptr rfl rfl) rfl <| AM.qv (n_field_ptr rfl rfl) rfl <| AM.qv (q_load_ptr rfl rfl .p2 rfl) rfl <| AM.callp rfl (strings_Compare_c rfl) (CoL.refl _) rfl <| AM.buildSliceL (xs := ([(cmp_Compare_int v10.Number p0x0.Value.Number), (Lib.compareBytes v10.Words p0x0.Value.Words)] : List Int).map I) rfl rfl rfl rfl rfl rfl <| bndE h fun v12 e9 h => AM.callp rfl (cmp_Or_int_c e9) (CoL.refl _) rfl <| AM.qv (q_assign rfl) rfl <| AM.nil <| rN <| tS <| tSR <| rF rfl rfl rfl <| rL rfl rfl .p0 rfl rfl <| rF rfl rfl rfl <| rF rfl rfl rfl <| rL rfl rfl .p2 rfl rfl <| ARun.qv (q_bne rfl rfl) rfl <| rN <| ATodo.cut (fun σ' => ∃ (n13 : Int), Q_MatchesItem_j1 p0x0 n13 = some r ∧ σ' = ⟨83, [(2, .ptr b1 0), (7, I n13)], [(b1, .cells [I p0x0.Kind, .str p0x0.Field, .str p0x0.Op, I p0x0.Value.Kind, .bool p0x0.Value.Flag, I p0x0.Value.Number, .str p0x0.Value.Words, I p0x0.Version.Major, I p0x0.Version.Minor, I p0x0.Version.Patch, .list 11 (p0x0.Kids.map Query.av)])]⟩) ?_ ?_
              · refine ATodo.cond rfl (fun hc => ?_) (fun hc => ?_)
                · exact have h := iteT hc h; tR <| rA rfl rfl <| rN <| ATodo.stop <| ImpX.lq [2] ⟨(1 : Int), h, rfl⟩ rfl rfl
                · exact have h := iteFb hc h; tK <| ATodo.stop <| ImpX.lq [2] ⟨v12, h, rfl⟩ rfl rfl
              · rintro σ' ⟨n13, h, rfl⟩
                unfold Q_MatchesItem_j1 at h
                refine tSR <| rF rfl rfl rfl <| rL rfl rfl .p0 rfl rfl <| rM rfl rfl <| bndE h fun v14 e10 h => r_callp rfl (Q_compares_c e10) (CoL.refl _) rfl <| rA rfl rfl <| rN <| ATodo.ret <| ?_
                obtain rfl := Option.some.inj h
                exact ImpX.here ⟨_, .cons (.tmp _ _ rfl) .nil, rfl⟩
theorem Q_MatchesItem_r_c [GI : GTab] : ∀ (k : Nat) {p0x0 : Query} {p1x0 : ItemS} {r : Bool}, Q_MatchesItem_r k p0x0 p1x0 = some r → Pu Tryz.prog 51 [.agg [I p0x0.Kind, .str p0x0.Field, .str p0x0.Op, I p0x0.Value.Kind, .bool p0x0.Value.Flag, I p0x0.Value.Number, .str p0x0.Value.Words, I p0x0.Version.Major, I p0x0.Version.Minor, I p0x0.Version.Patch, .list 11 (p0x0.Kids.map Query.av)], .agg [.str p1x0.Device.Key, .str p1x0.Device.Model, .str p1x0.Device.Tenant, I p1x0.Device.Firmware.Major, I p1x0.Device.Firmware.Minor, I p1x0.Device.Firmware.Patch, .list 2 (p1x0.Device.Tags.map Pair.av), .list 5 (p1x0.Props.map PropS.av)]] (.bool r) := by
  intro k
  induction k with
  | zero => intro p0x0 p1x0 r h; cases h
  | succ k ih => intro p0x0 p1x0 r h; exact Q_MatchesItem_bd_c ih h
theorem Q_MatchesItem_c [GI : GTab] {p0x0 : Query} {p1x0 : ItemS} {r : Bool} (h : Q_MatchesItem p0x0 p1x0 = some r) : Pu Tryz.prog 51 [.agg [I p0x0.Kind, .str p0x0.Field, .str p0x0.Op, I p0x0.Value.Kind, .bool p0x0.Value.Flag, I p0x0.Value.Number, .str p0x0.Value.Words, I p0x0.Version.Major, I p0x0.Version.Minor, I p0x0.Version.Patch, .list 11 (p0x0.Kids.map Query.av)], .agg [.str p1x0.Device.Key, .str p1x0.Device.Model, .str p1x0.Device.Tenant, I p1x0.Device.Firmware.Major, I p1x0.Device.Firmware.Minor, I p1x0.Device.Firmware.Patch, .list 2 (p1x0.Device.Tags.map Pair.av), .list 5 (p1x0.Props.map PropS.av)]] (.bool r) := Q_MatchesItem_r_c depth h

set_option maxHeartbeats 4000000 in
theorem slices_Equal_string_string_c [GI : GTab] {p0x0 : List Str} {p1x0 : List Str} {r : Bool} (h : slices_Equal_string_string p0x0 p1x0 = some r) : Pu Tryz.prog 22 [.list 1 (p0x0.map AV.str), .list 1 (p1x0.map AV.str)] (.bool r) := by
  unfold slices_Equal_string_string at h
  refine ACall.bodyN Tryz.func22 rfl Tryz.ntmps22 Tryz.results22 rfl rfl ?_
  refine tSR <| rA rfl rfl <| rN <| tS <| tSR <| rM rfl rfl <| ARun.qv (t_len rfl) rfl <| rM rfl rfl <| ARun.qv (t_len rfl) rfl <| ARun.qv (q_neq rfl rfl) rfl <| rN <| ATodo.cond_d rfl (fun hc => ?_) (fun hc => ?_)
  · refine have h := iteT hc h; tSR <| rA rfl rfl <| rN <| ATodo.ret <| ?_
    obtain rfl := Option.some.inj h
    exact ImpX.here ⟨_, .cons (.tmp _ _ rfl) .nil, rfl⟩
  · refine have h := iteF hc h; tK <| tS <| tSR <| rM rfl rfl <| ARun.qv (t_len rfl) rfl <| rM rfl rfl <| rN <| ATodo.block <| ATodo.loopI (fun x : Int => slices_Equal_string_string_b1 p0x0 p1x0 x) (fun x σ' => σ' = ⟨26, [(0, .list 1 (p0x0.map AV.str)), (1, .list 1 (p1x0.map AV.str)), (12, I (p0x0.length : Int)), (13, I x)], []⟩) h ?_ ?_
    · exact ImpX.lq [] rfl rfl rfl
    · intro n2 z1 σ' J1 hmk h hJ1 hA1
      obtain rfl := hmk
      replace h : slices_Equal_string_string_b1 p0x0 p1x0 n2 = some z1 := h
      unfold slices_Equal_string_string_b1 at h
      refine tSR <| ARun.qv (q_lss rfl rfl) rfl <| rN <| tS <| ATodo.cond_d rfl (fun hc => ?_) (fun hc => ?_)
      · refine have h := iteT hc h; tK <| tS <| ATodo.block <| tSR <| rM rfl rfl <| rA rfl rfl <| rN <| tS <| ATodo.regionM (id := 6) (A := [0, 0, 3, 7, 0, 0, 48, 112, 255]) 9 mixed rfl (by kernel_rfl) (by kernel_rfl) <| AM.qv (q_move rfl) rfl <| AM.qv (q_move rfl) rfl <| bndE h fun v3 e1 h => AM.qv (t_index rfl rfl rfl e1 rfl rfl) rfl <| AM.qv (q_load_rptr rfl rfl rfl) rfl <| AM.qv (q_move rfl) rfl <| AM.qv (q_move rfl) rfl <| bndE h fun v4 e2 h => AM.qv (t_index rfl rfl rfl e2 rfl rfl) rfl <| AM.qv (q_load_rptr rfl rfl rfl) rfl <| AM.qv (q_sne rfl rfl) rfl <| AM.nil <| rN <| ATodo.cond_d rfl (fun hc => ?_) (fun hc => ?_)
        · refine have h := iteT hc h; tSR <| rA rfl rfl <| rN <| ATodo.ret <| have h := outL h hA1; ?_
          obtain rfl := Option.some.inj h
          exact ImpX.here ⟨_, .cons (.tmp _ _ rfl) .nil, rfl⟩
        · refine have h := iteF hc h; tK <| ATodo.blk <| tR <| ARun.qv (q_addw rfl rfl) rfl <| rM rfl rfl <| rN <| ATodo.stop <| ?_
          obtain rfl := Option.some.inj h
          exact hJ1 _ _ rfl <| ImpX.lq [] rfl rfl rfl
      · refine have h := iteF hc h; ATodo.exit rfl <| have h := outL h hA1; tSR <| rA rfl rfl <| rN <| ATodo.ret <| ?_
        obtain rfl := Option.some.inj h
        exact ImpX.here ⟨_, .cons (.tmp _ _ rfl) .nil, rfl⟩

set_option maxHeartbeats 4000000 in
theorem device_isPrefix_c {p0x0 : Str} {r : Bool} (h : device_isPrefix p0x0 = some r) : Pu Tryz.prog 220 [.str p0x0] (.bool r) := by
  unfold device_isPrefix at h
  refine ACall.bodyN Tryz.func220 rfl Tryz.ntmps220 Tryz.results220 rfl rfl ?_
  refine tSR <| rA rfl rfl <| rN <| tS <| ATodo.cut (fun σ' => ∃ (c1 : Bool), device_isPrefix_j1 c1 = some r ∧ σ' = ⟨12, [(2, .bool c1)], []⟩) ?_ ?_
  · refine tR <| rM rfl rfl <| ARun.qv (q_len_str rfl) rfl <| r_callp rfl (base_Out_c rfl) (CoL.refl _) rfl <| ARun.qv (q_not rfl) rfl <| rM rfl rfl <| ARun.guard rfl rfl rfl (fun hc => ?_) (fun hc => ?_)
    · exact have h := iteT hc h; rM rfl rfl <| rY rfl rfl rfl <| bndE h fun v2 e1 h => r_callp rfl (strings_Trim_c e1) (CoL.refl _) rfl <| rY rfl rfl rfl <| ARun.qv (q_seq rfl rfl) rfl <| rT rfl rfl rfl <| rA rfl rfl <| rN <| ATodo.stop <| ImpX.lq [] ⟨decide (v2 = ([] : Str)), h, rfl⟩ rfl rfl
    · exact have h := iteFb hc h; rG rfl rfl rfl rfl <| rG rfl rfl rfl rfl <| rE rfl rfl rfl <| rA rfl rfl <| rN <| ATodo.stop <| ImpX.lq [] ⟨false, h, rfl⟩ rfl rfl
  · rintro σ' ⟨c1, h, rfl⟩
    unfold device_isPrefix_j1 at h
    refine ATodo.ret <| ?_
    obtain rfl := Option.some.inj h
    exact ImpX.here ⟨_, .cons (.tmp _ _ rfl) .nil, rfl⟩

set_option maxHeartbeats 4000000 in
theorem device_CheckModels_1x_c [GI : GTab] {p0x0 : Model} {p1x0 : Model} {r : Bool} (h : device_CheckModels_1x p0x0 p1x0 = r) : Pu Tryz.prog 222 [.agg [.str p0x0.Key, .str p0x0.Prefix, .list 4 (p0x0.Props.map PropType.av)], .rptr [.str p1x0.Key, .str p1x0.Prefix, .list 4 (p1x0.Props.map PropType.av)]] (.bool r) := by
  unfold device_CheckModels_1x at h
  refine ACall.bodyN Tryz.func222 rfl Tryz.ntmps222 Tryz.results222 rfl rfl ?_
  refine tSR <| n_box rfl rfl rfl rfl fun b1 => rA rfl rfl <| rN <| tSR <| rF rfl rfl rfl <| rL rfl rfl .p0 rfl rfl <| ARun.qv (n_field_rptr rfl rfl) rfl <| ARun.qv (q_load_rptr rfl rfl rfl) rfl <| ARun.qv (q_seq rfl rfl) rfl <| rA rfl rfl <| rN <| ATodo.ret <| ?_
  obtain rfl := h
  exact ImpX.here ⟨_, .cons (.tmp _ _ rfl) .nil, rfl⟩

set_option maxHeartbeats 4000000 in
theorem slices_IndexFunc_Model_Model_c [GI : GTab] {p0x0 : List Model} {fnb : Model → Option Bool} {fnb_F : FuncId} [IsFn Tryz.prog fnb_F] {fnb_C : List AV} (fnb_h : ∀ {y0 : _} {u : Bool}, fnb y0 = some u → Pu Tryz.prog fnb_F (.agg [.str y0.Key, .str y0.Prefix, .list 4 (y0.Props.map PropType.av)] ::  fnb_C) (.bool u)) {r : Int} (h : slices_IndexFunc_Model_Model p0x0 fnb = some r) : Pu Tryz.prog 224 [.list 3 (p0x0.map Model.av), .func (.func fnb_F) fnb_C] (I r) := by
  unfold slices_IndexFunc_Model_Model at h
  refine ACall.bodyN Tryz.func224 rfl Tryz.ntmps224 Tryz.results224 rfl rfl ?_
  refine tSR <| rA rfl rfl <| rN <| tS <| tSR <| rM rfl rfl <| ARun.qv (t_len rfl) rfl <| rM rfl rfl <| rN <| ATodo.block <| ATodo.loopI (fun x : Int => slices_IndexFunc_Model_Model_b1 p0x0 fnb x) (fun x σ' => σ' = ⟨19, [(0, .list 3 (p0x0.map Model.av)), (1, .func (.func fnb_F) fnb_C), (7, I (p0x0.length : Int)), (8, I x)], []⟩) h ?_ ?_
  · exact ImpX.lq [] rfl rfl rfl
  · intro n2 z1 σ' J1 hmk h hJ1 hA1
    obtain rfl := hmk
    replace h : slices_IndexFunc_Model_Model_b1 p0x0 fnb n2 = some z1 := h
    unfold slices_IndexFunc_Model_Model_b1 at h
    refine tSR <| ARun.qv (q_lss rfl rfl) rfl <| rN <| tS <| ATodo.cond_d rfl (fun hc => ?_) (fun hc => ?_)
    · refine have h := iteT hc h; tK <| tS <| ATodo.block <| tSR <| rM rfl rfl <| rA rfl rfl <| rN <| tSR <| rM rfl rfl <| rM rfl rfl <| rM rfl rfl <| bndE h fun v3 e1 h => ARun.qv (t_index rfl rfl rfl e1 rfl rfl) rfl <| ARun.qv (q_load_rptr_agg rfl rfl rfl) rfl <| bndE h fun v4 e2 h => r_callvp rfl rfl (fnb_h e2) (CoL.refl _) rfl <| rN <| ATodo.cond rfl (fun hc => ?_) (fun hc => ?_)
      · refine have h := iteT hc h; tSR <| rM rfl rfl <| rA rfl rfl <| rN <| ATodo.ret <| have h := outL h hA1; ?_
        obtain rfl := Option.some.inj h
        exact ImpX.here ⟨_, .cons (.tmp _ _ rfl) .nil, rfl⟩
      · refine have h := iteFb hc h; tK <| ATodo.blk <| tR <| ARun.qv (q_addw rfl rfl) rfl <| rM rfl rfl <| rN <| ATodo.stop <| ?_
        obtain rfl := Option.some.inj h
        exact hJ1 _ _ rfl <| ImpX.lq [] rfl rfl rfl
    · refine have h := iteF hc h; ATodo.exit rfl <| have h := outL h hA1; tSR <| rA rfl rfl <| rN <| ATodo.ret <| ?_
      obtain rfl := Option.some.inj h
      exact ImpX.here ⟨_, .cons (.tmp _ _ rfl) .nil, rfl⟩

set_option maxHeartbeats 4000000 in
theorem slices_ContainsFunc_Model_Model_c [GI : GTab] {p0x0 : List Model} {fnb : Model → Option Bool} {fnb_F : FuncId} [IsFn Tryz.prog fnb_F] {fnb_C : List AV} (fnb_h : ∀ {y0 : _} {u : Bool}, fnb y0 = some u → Pu Tryz.prog fnb_F (.agg [.str y0.Key, .str y0.Prefix, .list 4 (y0.Props.map PropType.av)] ::  fnb_C) (.bool u)) {r : Bool} (h : slices_ContainsFunc_Model_Model p0x0 fnb = some r) : Pu Tryz.prog 221 [.list 3 (p0x0.map Model.av), .func (.func fnb_F) fnb_C] (.bool r) := by
  unfold slices_ContainsFunc_Model_Model at h
  refine ACall.bodyN Tryz.func221 rfl Tryz.ntmps221 Tryz.results221 rfl rfl ?_
  refine tSR <| rA rfl rfl <| rN <| tSR <| rM rfl rfl <| rM rfl rfl <| bndE h fun v1 e1 h => r_callpB rfl (slices_IndexFunc_Model_Model_c fnb_h e1) (.cons (.co (.refl _)) (.cons (.co (.refl _)) .nil)) rfl rfl <| ARun.qv (q_geq rfl rfl) rfl <| rA rfl rfl <| rN <| ATodo.ret <| ?_
  obtain rfl := Option.some.inj h
  exact ImpX.here ⟨_, .cons (.tmp _ _ rfl) .nil, rfl⟩

set_option maxHeartbeats 4000000 in
theorem device_typesFault_c {p0x0 : List PropType} {r : Int} (h : device_typesFault p0x0 = some r) : Pu Tryz.prog 223 [.list 4 (p0x0.map PropType.av)] (I r) := by
  unfold device_typesFault at h
  refine ACall.bodyN Tryz.func223 rfl Tryz.ntmps223 Tryz.results223 rfl rfl ?_
  refine tSR <| rA rfl rfl <| rN <| tS <| tSR <| rM rfl rfl <| ARun.qv (t_len rfl) rfl <| rM rfl rfl <| rN <| ATodo.block <| ATodo.loopI (fun x : Int => device_typesFault_b1 p0x0 x) (fun x σ' => σ' = ⟨67, [(0, .list 4 (p0x0.map PropType.av)), (6, .list 4 (p0x0.map PropType.av)), (7, I (p0x0.length : Int)), (8, I x)], []⟩) h ?_ ?_
  · exact ImpX.lq [] rfl rfl rfl
  · intro n2 z1 σ' J1 hmk h hJ1 hA1
    obtain rfl := hmk
    replace h : device_typesFault_b1 p0x0 n2 = some z1 := h
    unfold device_typesFault_b1 at h
    refine tSR <| ARun.qv (q_lss rfl rfl) rfl <| rN <| tS <| ATodo.cond_d rfl (fun hc => ?_) (fun hc => ?_)
    · refine have h := iteT hc h; tK <| tS <| ATodo.block <| tSR <| rM rfl rfl <| bndE h fun v3 e1 h => ARun.qv (t_index rfl rfl rfl e1 rfl rfl) rfl <| ARun.qv (q_load_rptr_agg rfl rfl rfl) rfl <| n_alloc rfl rfl rfl rfl fun b4 => rA rfl rfl <| n_store_ptr rfl rfl rfl rfl .p0 rfl rfl <| rN <| tSR <| rF rfl rfl rfl <| rL rfl rfl .p0 rfl rfl <| ARun.qv (q_eql rfl rfl) rfl <| rA rfl rfl <| rN <| ATodo.block <| tSR <| rF rfl rfl rfl <| rL rfl rfl .p0 rfl rfl <| bndE h fun v5 e2 h => r_callp rfl (item_Property_c e2) (CoL.refl _) rfl <| ARun.qv (q_not rfl) rfl <| rA rfl rfl <| rN <| ATodo.cond rfl (fun hc => ?_) (fun hc => ?_)
      · refine have h := iteT hc h; tSR <| rA rfl rfl <| rN <| ATodo.ret <| have h := outL h hA1; ?_
        obtain rfl := Option.some.inj h
        exact ImpX.here ⟨_, .cons (.tmp _ _ rfl) .nil, rfl⟩
      · refine have h := iteFb hc h; tS <| ATodo.cut (fun σ' => ∃ (c6 : Bool), device_typesFault_j1 n2 v3 c6 = some z1 ∧ σ' = ⟨67, [(0, .list 4 (p0x0.map PropType.av)), (4, .ptr b4 0), (5, .bool (decide (v3.Kind = (2 : Int)))), (6, .list 4 (p0x0.map PropType.av)), (7, I (p0x0.length : Int)), (8, I n2), (21, .bool c6)], [(b4, .cells [.str v3.Name, I v3.Kind, I v3.Low, I v3.High])]⟩) ?_ ?_
        · refine ATodo.regionM (id := 7) (A := [0, 1, 3, 7, 15, 7, 7, 71, 231, 487, 999, 2047, 4095, 8191]) 14 mixed rfl (by kernel_rfl) (by kernel_rfl) <| AM.qv (q_move rfl) rfl <| AM.qv (q_gtr rfl rfl) rfl <| AM.qv (q_move rfl) rfl <| AM.guard_dt rfl rfl rfl (fun hc => ?_) (fun hc => ?_)
          · exact have h := iteT hc h; AM.qv (n_field_ptr rfl rfl) rfl <| AM.guard_yes rfl rfl rfl <| AM.qv (q_load_ptr rfl rfl .p0 rfl) rfl <| AM.guard_yes rfl rfl rfl <| AM.qv (q_move rfl) rfl <| AM.guard_yes rfl rfl rfl <| AM.qv (q_move rfl) rfl <| AM.guard_yes rfl rfl rfl <| AM.qv (q_subw rfl rfl) rfl <| AM.guard_yes rfl rfl rfl <| bndE h fun v7 e3 h => AM.qv (t_index rfl rfl rfl e3 rfl rfl) rfl <| AM.guard_yes rfl rfl rfl <| AM.qv (n_field_rptr rfl rfl) rfl <| AM.guard_yes rfl rfl rfl <| AM.qv (q_load_rptr rfl rfl rfl) rfl <| AM.guard_yes rfl rfl rfl <| AM.qv (t_sleq rfl rfl) rfl <| AM.qv (q_pick_t rfl rfl) rfl <| AM.qv (q_assign rfl) rfl <| AM.nil <| rN <| ATodo.stop <| ImpX.lq [0] ⟨Op.bytesLess v3.Name v7.Name || v3.Name == v7.Name, h, rfl⟩ rfl rfl
          · exact have h := iteF hc h; AM.guard_no rfl rfl rfl rfl <| AM.guard_no rfl rfl rfl rfl <| AM.guard_no rfl rfl rfl rfl <| AM.guard_no rfl rfl rfl rfl <| AM.guard_no rfl rfl rfl rfl <| AM.guard_no rfl rfl rfl rfl <| AM.guard_no rfl rfl rfl rfl <| AM.guard_no rfl rfl rfl rfl <| AM.qv (q_pick_f rfl rfl) rfl <| AM.qv (q_assign rfl) rfl <| AM.nil <| rN <| ATodo.stop <| ImpX.lq [0] ⟨false, h, rfl⟩ rfl rfl
        · rintro σ' ⟨c6, h, rfl⟩
          unfold device_typesFault_j1 at h
          refine ATodo.cond rfl (fun hc => ?_) (fun hc => ?_)
          · refine have h := iteT hc h; tSR <| rA rfl rfl <| rN <| ATodo.ret <| have h := outL h hA1; ?_
            obtain rfl := Option.some.inj h
            exact ImpX.here ⟨_, .cons (.tmp _ _ rfl) .nil, rfl⟩
          · refine have h := iteFb hc h; tSR <| rF rfl rfl rfl <| rL rfl rfl .p0 rfl rfl <| r_callp rfl (base_Out_c rfl) (CoL.refl _) rfl <| rA rfl rfl <| rN <| ATodo.cond rfl (fun hc => ?_) (fun hc => ?_)
            · refine have h := iteT hc h; tSR <| rA rfl rfl <| rN <| ATodo.ret <| have h := outL h hA1; ?_
              obtain rfl := Option.some.inj h
              exact ImpX.here ⟨_, .cons (.tmp _ _ rfl) .nil, rfl⟩
            · refine have h := iteFb hc h; tS <| ATodo.cut (fun σ' => ∃ (c8 : Bool), device_typesFault_j2 n2 v3 c8 = some z1 ∧ σ' = ⟨67, [(0, .list 4 (p0x0.map PropType.av)), (4, .ptr b4 0), (5, .bool (decide (v3.Kind = (2 : Int)))), (6, .list 4 (p0x0.map PropType.av)), (7, I (p0x0.length : Int)), (8, I n2), (39, .bool c8)], [(b4, .cells [.str v3.Name, I v3.Kind, I v3.Low, I v3.High])]⟩) ?_ ?_
              · refine tR <| rM rfl rfl <| rM rfl rfl <| ARun.guard_dt rfl rfl rfl (fun hc => ?_) (fun hc => ?_)
                · rw [andTd hc] at h
                  refine rF rfl rfl rfl <| rY rfl rfl rfl <| rL rfl rfl .p0 rfl rfl <| rY rfl rfl rfl <| rF rfl rfl rfl <| rY rfl rfl rfl <| rL rfl rfl .p0 rfl rfl <| rY rfl rfl rfl <| r_callp rfl (base_Out_c rfl) (CoL.refl _) rfl <| rY rfl rfl rfl <| rM rfl rfl <| ARun.guard rfl rfl rfl (fun hc => ?_) (fun hc => ?_)
                  · rw [orFb hc] at h
                    exact rF rfl rfl rfl <| rY rfl rfl rfl <| rL rfl rfl .p0 rfl rfl <| rY rfl rfl rfl <| ARun.qv (q_gtr rfl rfl) rfl <| rY rfl rfl rfl <| rE rfl rfl rfl <| rT rfl rfl rfl <| rA rfl rfl <| rN <| ATodo.stop <| ImpX.lq [0] ⟨decide ((1000000000 : Int) < v3.High), h, rfl⟩ rfl rfl
                  · rw [orTb hc] at h
                    exact rG rfl rfl rfl rfl <| rG rfl rfl rfl rfl <| rY rfl rfl rfl <| rT rfl rfl rfl <| rT rfl rfl rfl <| rA rfl rfl <| rN <| ATodo.stop <| ImpX.lq [0] ⟨true, h, rfl⟩ rfl rfl
                · rw [andFd hc] at h
                  exact rG rfl rfl rfl rfl <| rG rfl rfl rfl rfl <| rG rfl rfl rfl rfl <| rG rfl rfl rfl rfl <| rG rfl rfl rfl rfl <| ARun.guard_und rfl rfl rfl <| ARun.guard_und rfl rfl rfl <| ARun.guard_und rfl rfl rfl <| rG rfl rfl rfl rfl <| rE rfl rfl rfl <| rA rfl rfl <| rN <| ATodo.stop <| ImpX.lq [0] ⟨false, h, rfl⟩ rfl rfl
              · rintro σ' ⟨c8, h, rfl⟩
                unfold device_typesFault_j2 at h
                refine ATodo.cond rfl (fun hc => ?_) (fun hc => ?_)
                · refine have h := iteT hc h; tSR <| rA rfl rfl <| rN <| ATodo.ret <| have h := outL h hA1; ?_
                  obtain rfl := Option.some.inj h
                  exact ImpX.here ⟨_, .cons (.tmp _ _ rfl) .nil, rfl⟩
                · refine have h := iteFb hc h; tS <| ATodo.cut (fun σ' => ∃ (c9 : Bool), device_typesFault_j3 n2 c9 = some z1 ∧ σ' = ⟨67, [(0, .list 4 (p0x0.map PropType.av)), (6, .list 4 (p0x0.map PropType.av)), (7, I (p0x0.length : Int)), (8, I n2), (53, .bool c9)], []⟩) ?_ ?_
                  · refine tR <| rM rfl rfl <| ARun.qv (q_not_d rfl) rfl <| rM rfl rfl <| ARun.guard_dt rfl rfl rfl (fun hc => ?_) (fun hc => ?_)
                    · rw [andTd hc] at h
                      refine rF rfl rfl rfl <| rY rfl rfl rfl <| rL rfl rfl .p0 rfl rfl <| rY rfl rfl rfl <| ARun.qv (q_neq rfl rfl) rfl <| rY rfl rfl rfl <| rM rfl rfl <| ARun.guard_df rfl rfl rfl (fun hc => ?_) (fun hc => ?_)
                      · rw [orFd hc] at h
                        exact rF rfl rfl rfl <| rY rfl rfl rfl <| rL rfl rfl .p0 rfl rfl <| rY rfl rfl rfl <| ARun.qv (q_neq rfl rfl) rfl <| rY rfl rfl rfl <| rE rfl rfl rfl <| rT rfl rfl rfl <| rA rfl rfl <| rN <| ATodo.stop <| ImpX.lq [] ⟨decide (v3.High ≠ (0 : Int)), h, rfl⟩ rfl rfl
                      · rw [orTd hc] at h
                        exact rG rfl rfl rfl rfl <| rG rfl rfl rfl rfl <| rY rfl rfl rfl <| rT rfl rfl rfl <| rT rfl rfl rfl <| rA rfl rfl <| rN <| ATodo.stop <| ImpX.lq [] ⟨true, h, rfl⟩ rfl rfl
                    · rw [andFd hc] at h
                      exact rG rfl rfl rfl rfl <| rG rfl rfl rfl rfl <| rG rfl rfl rfl rfl <| ARun.guard_und rfl rfl rfl <| ARun.guard_und rfl rfl rfl <| ARun.guard_und rfl rfl rfl <| rG rfl rfl rfl rfl <| rE rfl rfl rfl <| rA rfl rfl <| rN <| ATodo.stop <| ImpX.lq [] ⟨false, h, rfl⟩ rfl rfl
                  · rintro σ' ⟨c9, h, rfl⟩
                    unfold device_typesFault_j3 at h
                    refine ATodo.cond rfl (fun hc => ?_) (fun hc => ?_)
                    · refine have h := iteT hc h; tSR <| rA rfl rfl <| rN <| ATodo.ret <| have h := outL h hA1; ?_
                      obtain rfl := Option.some.inj h
                      exact ImpX.here ⟨_, .cons (.tmp _ _ rfl) .nil, rfl⟩
                    · refine have h := iteFb hc h; tK <| ATodo.blk <| ATodo.blk <| tR <| ARun.qv (q_addw rfl rfl) rfl <| rM rfl rfl <| rN <| ATodo.stop <| ?_
                      obtain rfl := Option.some.inj h
                      exact hJ1 _ _ rfl <| ImpX.lq [] rfl rfl rfl
    · refine have h := iteF hc h; ATodo.exit rfl <| have h := outL h hA1; tSR <| rA rfl rfl <| rN <| ATodo.ret <| ?_
      obtain rfl := Option.some.inj h
      exact ImpX.here ⟨_, .cons (.tmp _ _ rfl) .nil, rfl⟩

set_option maxHeartbeats 4000000 in
theorem device_CheckModels_c {p0x0 : List Model} {r : Int} (h : device_CheckModels p0x0 = some r) : Pu Tryz.prog 186 [.list 3 (p0x0.map Model.av)] (I r) := by
  unfold device_CheckModels at h
  refine ACall.bodyN Tryz.func186 rfl Tryz.ntmps186 Tryz.results186 rfl rfl ?_
  refine tSR <| rA rfl rfl <| rN <| tS <| tSR <| rM rfl rfl <| ARun.qv (t_len rfl) rfl <| ARun.qv (q_gtr rfl rfl) rfl <| rN <| ATodo.cond_d rfl (fun hc => ?_) (fun hc => ?_)
  · refine have h := iteT hc h; tSR <| rA rfl rfl <| rN <| ATodo.ret <| ?_
    obtain rfl := Option.some.inj h
    exact ImpX.here ⟨_, .cons (.tmp _ _ rfl) .nil, rfl⟩
  · refine have h := iteF hc h; tK <| tS <| tSR <| rM rfl rfl <| ARun.qv (t_len rfl) rfl <| rM rfl rfl <| rN <| ATodo.block <| ATodo.loopI (fun x : Int => device_CheckModels_b1 p0x0 x) (fun x σ' => σ' = ⟨58, [(0, .list 3 (p0x0.map Model.av)), (9, .list 3 (p0x0.map Model.av)), (10, I (p0x0.length : Int)), (11, I x)], []⟩) h ?_ ?_
    · exact ImpX.lq [] rfl rfl rfl
    · intro n2 z1 σ' J1 hmk h hJ1 hA1
      obtain rfl := hmk
      replace h : device_CheckModels_b1 p0x0 n2 = some z1 := h
      unfold device_CheckModels_b1 at h
      refine tSR <| ARun.qv (q_lss rfl rfl) rfl <| rN <| tS <| ATodo.cond_d rfl (fun hc => ?_) (fun hc => ?_)
      · refine have h := iteT hc h; tK <| tS <| ATodo.block <| tSR <| rM rfl rfl <| bndE h fun v3 e1 h => ARun.qv (t_index rfl rfl rfl e1 rfl rfl) rfl <| ARun.qv (q_load_rptr_agg rfl rfl rfl) rfl <| n_alloc rfl rfl rfl rfl fun b4 => rA rfl rfl <| n_store_ptr rfl rfl rfl rfl .p0 rfl rfl <| rN <| tS <| ATodo.block <| tSR <| rF rfl rfl rfl <| rL rfl rfl .p0 rfl rfl <| bndE h fun v5 e2 h => r_callp rfl (base_Key_c e2) (CoL.refl _) rfl <| ARun.qv (q_not rfl) rfl <| rA rfl rfl <| rN <| ATodo.cond rfl (fun hc => ?_) (fun hc => ?_)
        · refine have h := iteT hc h; tSR <| rA rfl rfl <| rN <| ATodo.ret <| have h := outL h hA1; ?_
          obtain rfl := Option.some.inj h
          exact ImpX.here ⟨_, .cons (.tmp _ _ rfl) .nil, rfl⟩
        · refine have h := iteFb hc h; tS <| ATodo.cut (fun σ' => ∃ (c6 : Bool), device_CheckModels_j1 p0x0 n2 v3 c6 = some z1 ∧ σ' = ⟨58, [(0, .list 3 (p0x0.map Model.av)), (3, I n2), (4, .ptr b4 0), (9, .list 3 (p0x0.map Model.av)), (10, I (p0x0.length : Int)), (11, I n2), (21, .bool c6)], [(b4, .cells [.str v3.Key, .str v3.Prefix, .list 4 (v3.Props.map PropType.av)])]⟩) ?_ ?_
          · refine ATodo.regionM (id := 8) (A := [0, 1, 3, 7, 15, 7, 7, 71, 231, 487, 999, 2047, 4095, 8191]) 14 mixed rfl (by kernel_rfl) (by kernel_rfl) <| AM.qv (q_move rfl) rfl <| AM.qv (q_gtr rfl rfl) rfl <| AM.qv (q_move rfl) rfl <| AM.guard_dt rfl rfl rfl (fun hc => ?_) (fun hc => ?_)
            · exact have h := iteT hc h; AM.qv (n_field_ptr rfl rfl) rfl <| AM.guard_yes rfl rfl rfl <| AM.qv (q_load_ptr rfl rfl .p0 rfl) rfl <| AM.guard_yes rfl rfl rfl <| AM.qv (q_move rfl) rfl <| AM.guard_yes rfl rfl rfl <| AM.qv (q_move rfl) rfl <| AM.guard_yes rfl rfl rfl <| AM.qv (q_subw rfl rfl) rfl <| AM.guard_yes rfl rfl rfl <| bndE h fun v7 e3 h => AM.qv (t_index rfl rfl rfl e3 rfl rfl) rfl <| AM.guard_yes rfl rfl rfl <| AM.qv (n_field_rptr rfl rfl) rfl <| AM.guard_yes rfl rfl rfl <| AM.qv (q_load_rptr rfl rfl rfl) rfl <| AM.guard_yes rfl rfl rfl <| AM.qv (t_sleq rfl rfl) rfl <| AM.qv (q_pick_t rfl rfl) rfl <| AM.qv (q_assign rfl) rfl <| AM.nil <| rN <| ATodo.stop <| ImpX.lq [0] ⟨Op.bytesLess v3.Key v7.Key || v3.Key == v7.Key, h, rfl⟩ rfl rfl
            · exact have h := iteF hc h; AM.guard_no rfl rfl rfl rfl <| AM.guard_no rfl rfl rfl rfl <| AM.guard_no rfl rfl rfl rfl <| AM.guard_no rfl rfl rfl rfl <| AM.guard_no rfl rfl rfl rfl <| AM.guard_no rfl rfl rfl rfl <| AM.guard_no rfl rfl rfl rfl <| AM.guard_no rfl rfl rfl rfl <| AM.qv (q_pick_f rfl rfl) rfl <| AM.qv (q_assign rfl) rfl <| AM.nil <| rN <| ATodo.stop <| ImpX.lq [0] ⟨false, h, rfl⟩ rfl rfl
          · rintro σ' ⟨c6, h, rfl⟩
            unfold device_CheckModels_j1 at h
            refine ATodo.cond rfl (fun hc => ?_) (fun hc => ?_)
            · refine have h := iteT hc h; tSR <| rA rfl rfl <| rN <| ATodo.ret <| have h := outL h hA1; ?_
              obtain rfl := Option.some.inj h
              exact ImpX.here ⟨_, .cons (.tmp _ _ rfl) .nil, rfl⟩
            · refine have h := iteFb hc h; tSR <| rF rfl rfl rfl <| rL rfl rfl .p0 rfl rfl <| bndE h fun v8 e4 h => r_callp rfl (device_isPrefix_c e4) (CoL.refl _) rfl <| ARun.qv (q_not rfl) rfl <| rA rfl rfl <| rN <| ATodo.cond rfl (fun hc => ?_) (fun hc => ?_)
              · refine have h := iteT hc h; tSR <| rA rfl rfl <| rN <| ATodo.ret <| have h := outL h hA1; ?_
                obtain rfl := Option.some.inj h
                exact ImpX.here ⟨_, .cons (.tmp _ _ rfl) .nil, rfl⟩
              · refine have h := iteFb hc h; tSR <| rM rfl rfl <| rM rfl rfl <| bndE h fun l9 e5 h => ARun.qv (t_slice_list rfl rfl .none (.some _ _ _ rfl) rfl rfl e5) rfl <| ARun.qv (q_makeFunc rfl) rfl <| bndE h fun v10 e6 h => r_callpB rfl (slices_ContainsFunc_Model_Model_c (fun e => device_CheckModels_1x_c (Option.some.inj e)) e6) (.cons (.co (.refl _)) (.cons (.funcL _ _ _ (.cons (.boxL _ _ _ .p0 (.cons (.co (.refl _)) (.cons (.co (.refl _)) (.cons (.co (.refl _)) .nil)))) .nil)) .nil)) rfl rfl <| rA rfl rfl <| rN <| ATodo.cond rfl (fun hc => ?_) (fun hc => ?_)
                · refine have h := iteT hc h; tSR <| rA rfl rfl <| rN <| ATodo.ret <| have h := outL h hA1; ?_
                  obtain rfl := Option.some.inj h
                  exact ImpX.here ⟨_, .cons (.tmp _ _ rfl) .nil, rfl⟩
                · refine have h := iteFb hc h; tSR <| rF rfl rfl rfl <| rL rfl rfl .p0 rfl rfl <| ARun.qv (t_len rfl) rfl <| ARun.qv (q_gtr rfl rfl) rfl <| rA rfl rfl <| rN <| ATodo.cond_d rfl (fun hc => ?_) (fun hc => ?_)
                  · refine have h := iteT hc h; tSR <| rA rfl rfl <| rN <| ATodo.ret <| have h := outL h hA1; ?_
                    obtain rfl := Option.some.inj h
                    exact ImpX.here ⟨_, .cons (.tmp _ _ rfl) .nil, rfl⟩
                  · refine have h := iteF hc h; tK <| ATodo.blk <| tSR <| rF rfl rfl rfl <| rL rfl rfl .p0 rfl rfl <| bndE h fun v11 e7 h => r_callp rfl (device_typesFault_c e7) (CoL.refl _) rfl <| rA rfl rfl <| rN <| tSR <| rM rfl rfl <| ARun.qv (q_neq rfl rfl) rfl <| rN <| ATodo.cond_d rfl (fun hc => ?_) (fun hc => ?_)
                    · refine have h := iteT hc h; tSR <| rM rfl rfl <| rA rfl rfl <| rN <| ATodo.ret <| have h := outL h hA1; ?_
                      obtain rfl := Option.some.inj h
                      exact ImpX.here ⟨_, .cons (.tmp _ _ rfl) .nil, rfl⟩
                    · refine have h := iteF hc h; tK <| ATodo.blk <| tR <| ARun.qv (q_addw rfl rfl) rfl <| rM rfl rfl <| rN <| ATodo.stop <| ?_
                      obtain rfl := Option.some.inj h
                      exact hJ1 _ _ rfl <| ImpX.lq [] rfl rfl rfl
      · refine have h := iteF hc h; ATodo.exit rfl <| have h := outL h hA1; tSR <| rA rfl rfl <| rN <| ATodo.ret <| ?_
        obtain rfl := Option.some.inj h
        exact ImpX.here ⟨_, .cons (.tmp _ _ rfl) .nil, rfl⟩

set_option maxHeartbeats 4000000 in
theorem device_model_1x_c [GI : GTab] {p0x0 : Model} {p1x0 : Str} {r : Bool} (h : device_model_1x p0x0 p1x0 = r) : Pu Tryz.prog 225 [.agg [.str p0x0.Key, .str p0x0.Prefix, .list 4 (p0x0.Props.map PropType.av)], .rptr [.str p1x0]] (.bool r) := by
  unfold device_model_1x at h
  refine ACall.bodyN Tryz.func225 rfl Tryz.ntmps225 Tryz.results225 rfl rfl ?_
  refine tSR <| n_box rfl rfl rfl rfl fun b1 => rA rfl rfl <| rN <| tSR <| rF rfl rfl rfl <| rL rfl rfl .p0 rfl rfl <| ARun.qv (q_load_rptr rfl rfl rfl) rfl <| ARun.qv (q_seq rfl rfl) rfl <| rA rfl rfl <| rN <| ATodo.ret <| ?_
  obtain rfl := h
  exact ImpX.here ⟨_, .cons (.tmp _ _ rfl) .nil, rfl⟩

set_option maxHeartbeats 4000000 in
theorem device_model_c [GI : GTab] {p0x0 : List Model} {p1x0 : Str} {r : Int} (h : device_model p0x0 p1x0 = some r) : Pu Tryz.prog 187 [.list 3 (p0x0.map Model.av), .str p1x0] (I r) := by
  unfold device_model at h
  refine ACall.bodyN Tryz.func187 rfl Tryz.ntmps187 Tryz.results187 rfl rfl ?_
  refine tSR <| n_box rfl rfl rfl rfl fun b1 => rA rfl rfl <| rN <| tSR <| rM rfl rfl <| ARun.qv (q_makeFunc rfl) rfl <| bndE h fun v2 e1 h => r_callpB rfl (slices_IndexFunc_Model_Model_c (fun e => device_model_1x_c (Option.some.inj e)) e1) (.cons (.co (.refl _)) (.cons (.funcL _ _ _ (.cons (.boxL _ _ _ .p0 (.cons (.co (.refl _)) .nil)) .nil)) .nil)) rfl rfl <| rA rfl rfl <| rN <| ATodo.ret <| ?_
  obtain rfl := Option.some.inj h
  exact ImpX.here ⟨_, .cons (.tmp _ _ rfl) .nil, rfl⟩

set_option maxHeartbeats 4000000 in
theorem device_checkOf_c [GI : GTab] {p0x0 : Str} {r : Int} (h : device_checkOf p0x0 = some r) : Pu Tryz.prog 191 [.str p0x0] (.int .u8 r) := by
  unfold device_checkOf at h
  refine ACall.bodyN Tryz.func191 rfl Tryz.ntmps191 Tryz.results191 rfl rfl ?_
  refine tSR <| rA rfl rfl <| rN <| tSR <| rA rfl rfl <| rN <| tS <| tSR <| rM rfl rfl <| ARun.qv (q_len_str rfl) rfl <| rM rfl rfl <| rN <| ATodo.block <| ATodo.loopI (fun x : Int × Int => device_checkOf_b1 p0x0 x.1 x.2) (fun x σ' => σ' = ⟨23, [(0, .str p0x0), (3, I x.1), (6, I (p0x0.length : Int)), (7, I x.2)], []⟩) h ?_ ?_
  · exact ImpX.lq [] rfl rfl rfl
  · intro x z1 σ' J1 hmk h hJ1 hA1
    obtain ⟨n3, n4⟩ := x
    obtain rfl := hmk
    replace h : device_checkOf_b1 p0x0 n3 n4 = some z1 := h
    unfold device_checkOf_b1 at h
    refine tSR <| ARun.qv (q_lss rfl rfl) rfl <| rN <| tS <| ATodo.cond_d rfl (fun hc => ?_) (fun hc => ?_)
    · refine have h := iteT hc h; tK <| tS <| ATodo.block <| tSR <| rM rfl rfl <| rA rfl rfl <| rN <| tR <| rM rfl rfl <| rM rfl rfl <| ARun.qv (q_addw rfl rfl) rfl <| rM rfl rfl <| rM rfl rfl <| bndE h fun c5 e1 h => ARun.qv (t_index_str rfl rfl e1) rfl <| r_callp rfl (strings_IndexByte_c rfl) (CoL.refl _) rfl <| ARun.qv (q_mulw rfl rfl) rfl <| ARun.qv (q_addw rfl rfl) rfl <| rA rfl rfl <| rN <| ATodo.blk <| tR <| ARun.qv (q_addw rfl rfl) rfl <| rM rfl rfl <| rN <| ATodo.stop <| ?_
      obtain rfl := Option.some.inj h
      exact hJ1 _ _ rfl <| ImpX.lq [] rfl rfl rfl
    · refine have h := iteF hc h; ATodo.exit rfl <| have h := outL h hA1; ?_
      unfold device_checkOf_k1 at h
      refine tSR <| rM rfl rfl <| ARun.qv (q_rem rfl rfl (by decide)) rfl <| bndE h fun c6 e2 h => ARun.qv (t_index_str rfl rfl e2) rfl <| rA rfl rfl <| rN <| ATodo.ret <| ?_
      obtain rfl := Option.some.inj h
      exact ImpX.here ⟨_, .cons (.tmp _ _ rfl) .nil, rfl⟩

set_option maxHeartbeats 4000000 in
theorem device_Serial_c {p0x0 : List Model} {p1x0 : Str} {p2x0 : Int} {r : Str × Int} (h : device_Serial p0x0 p1x0 p2x0 = some r) : Pu Tryz.prog 134 [.list 3 (p0x0.map Model.av), .str p1x0, I p2x0] (.tup [.str r.1, I r.2]) := by
  unfold device_Serial at h
  refine ACall.bodyN Tryz.func134 rfl Tryz.ntmps134 Tryz.results134 rfl rfl ?_
  refine tSR <| rA rfl rfl <| rA rfl rfl <| rN <| tS <| tSR <| rM rfl rfl <| bndE h fun v1 e1 h => r_callp rfl (device_CheckModels_c e1) (CoL.refl _) rfl <| rA rfl rfl <| rN <| tSR <| rM rfl rfl <| ARun.qv (q_neq rfl rfl) rfl <| rN <| ATodo.cond_d rfl (fun hc => ?_) (fun hc => ?_)
  · refine have h := iteT hc h; tSR <| rM rfl rfl <| rA rfl rfl <| rA rfl rfl <| rN <| ATodo.ret <| ?_
    obtain rfl := Option.some.inj h
    exact ImpX.here ⟨_, .cons (.tmp _ _ rfl) (.cons (.tmp _ _ rfl) .nil), rfl⟩
  · refine have h := iteF hc h; tK <| tSR <| rM rfl rfl <| rM rfl rfl <| bndE h fun v2 e2 h => r_callp rfl (device_model_c e2) (CoL.refl _) rfl <| rA rfl rfl <| rN <| tS <| tSR <| rM rfl rfl <| ARun.qv (q_lss rfl rfl) rfl <| rN <| ATodo.cond_d rfl (fun hc => ?_) (fun hc => ?_)
    · refine have h := iteT hc h; tSR <| rA rfl rfl <| rA rfl rfl <| rN <| ATodo.ret <| ?_
      obtain rfl := Option.some.inj h
      exact ImpX.here ⟨_, .cons (.tmp _ _ rfl) (.cons (.tmp _ _ rfl) .nil), rfl⟩
    · refine have h := iteF hc h; tK <| tS <| tSR <| rM rfl rfl <| r_callp rfl (base_Out_c rfl) (CoL.refl _) rfl <| rN <| ATodo.cond rfl (fun hc => ?_) (fun hc => ?_)
      · refine have h := iteT hc h; tSR <| rA rfl rfl <| rA rfl rfl <| rN <| ATodo.ret <| ?_
        obtain rfl := Option.some.inj h
        exact ImpX.here ⟨_, .cons (.tmp _ _ rfl) (.cons (.tmp _ _ rfl) .nil), rfl⟩
      · refine have h := iteFb hc h; tK <| tSR <| rM rfl rfl <| bndE h fun v3 e3 h => r_callp rfl (strconv_Itoa_c e3) (CoL.refl _) rfl <| rA rfl rfl <| rN <| tSR <| rM rfl rfl <| ARun.qv (q_len_str rfl) rfl <| ARun.qv (q_subw rfl rfl) rfl <| bndE h fun v4 e4 h => r_callp rfl (strings_Repeat_c e4) (CoL.refl _) rfl <| rM rfl rfl <| bndE h fun q5 e5 h => ARun.qv (q_sadd e5 rfl rfl) rfl <| rA rfl rfl <| rN <| tSR <| rM rfl rfl <| rM rfl rfl <| bndE h fun v6 e6 h => ARun.qv (t_index rfl rfl rfl e6 rfl rfl) rfl <| ARun.qv (n_field_rptr rfl rfl) rfl <| ARun.qv (q_load_rptr rfl rfl rfl) rfl <| rA rfl rfl <| rN <| tSR <| rM rfl rfl <| bndE h fun q7 e7 h => ARun.qv (q_sadd e7 rfl rfl) rfl <| rM rfl rfl <| bndE h fun q8 e8 h => ARun.qv (q_sadd e8 rfl rfl) rfl <| bndE h fun q9 e9 h => ARun.qv (q_sadd e9 rfl rfl) rfl <| rM rfl rfl <| rM rfl rfl <| bndE h fun q10 e10 h => ARun.qv (q_sadd e10 rfl rfl) rfl <| bndE h fun v11 e11 h => r_callp rfl (device_checkOf_c e11) (CoL.refl _) rfl <| ARun.qv (q_conv_is rfl) rfl <| bndE h fun q12 e12 h => ARun.qv (q_sadd e12 rfl rfl) rfl <| rA rfl rfl <| rA rfl rfl <| rN <| ATodo.ret <| ?_
        obtain rfl := Option.some.inj h
        exact ImpX.here ⟨_, .cons (.tmp _ _ rfl) (.cons (.tmp _ _ rfl) .nil), rfl⟩

set_option maxHeartbeats 4000000 in
theorem L_deviced_c {r : Bool} (h : L_deviced = some r) : Pu Tryz.prog 52 [] (.bool r) := by
  unfold L_deviced at h
  refine ACall.bodyN Tryz.func52 rfl Tryz.ntmps52 Tryz.results52 rfl rfl ?_
  refine tSR <| rA rfl rfl <| rN <| tSR <| ARun.qv (n_build rfl rfl rfl rfl rfl) rfl <| n_buildSliceL (xs := [.agg [.str ([109] : Str), .str ([65, 66] : Str), .nil]]) rfl rfl rfl rfl rfl rfl <| ARun.ghost <| ImpX.cox (s := 5) (av' := .list 3 (([(⟨([109] : Str), ([65, 66] : Str), []⟩ : Model)] : List Model).map Model.av)) rfl (CoX.listL (.cons .r (.cons .r (.cons .n .nil))) rfl rfl) <| ImpX.here <| bndE h fun v1 e1 h => r_callp rfl (device_Serial_c e1) (CoL.refl _) rfl <| rM rfl rfl <| rX rfl rfl rfl <| rX rfl rfl rfl <| rA rfl rfl <| rA rfl rfl <| rN <| tS <| ATodo.cut (fun σ' => ∃ (c2 : Bool), L_deviced_j1 c2 = some r ∧ σ' = ⟨15, [(0, .bool c2)], []⟩) ?_ ?_
  · refine tR <| rM rfl rfl <| ARun.qv (q_eql rfl rfl) rfl <| rM rfl rfl <| ARun.guard_dt rfl rfl rfl (fun hc => ?_) (fun hc => ?_)
    · rw [andTd hc] at h
      exact rM rfl rfl <| rY rfl rfl rfl <| ARun.qv (q_seq rfl rfl) rfl <| rT rfl rfl rfl <| rA rfl rfl <| rN <| ATodo.stop <| ImpX.lq [] ⟨decide (v1.1 = ([65, 66, 45, 48, 48, 48, 48, 48, 48, 48, 55, 45, 77] : Str)), h, rfl⟩ rfl rfl
    · rw [andFd hc] at h
      exact rG rfl rfl rfl rfl <| rE rfl rfl rfl <| rA rfl rfl <| rN <| ATodo.stop <| ImpX.lq [] ⟨false, h, rfl⟩ rfl rfl
  · rintro σ' ⟨c2, h, rfl⟩
    unfold L_deviced_j1 at h
    refine ATodo.ret <| ?_
    obtain rfl := Option.some.inj h
    exact ImpX.here ⟨_, .cons (.tmp _ _ rfl) .nil, rfl⟩

set_option maxHeartbeats 4000000 in
theorem L_QueriesMatch_c {p0x0 : List Int} {r : Bool} (h : L_QueriesMatch p0x0 = some r) : Pu Tryz.prog 5 [.list 1 (p0x0.map I)] (.bool r) := by
  unfold L_QueriesMatch at h
  refine ACall.bodyN Tryz.func5 rfl Tryz.ntmps5 Tryz.results5 rfl rfl ?_
  refine tSR <| rA rfl rfl <| rN <| tSR <| rM rfl rfl <| ARun.qv (n_build rfl rfl rfl rfl rfl) rfl <| n_box rfl rfl rfl rfl fun b1 => rA rfl rfl <| rN <| tSR <| rM rfl rfl <| bndE h fun v2 e1 h => t_call0 rfl (Stream_Query_c e1) (CoL.refl _) (.cons .p0 .nil) rfl rfl <| rM rfl rfl <| bndE h fun v3 e2 h => t_call0 rfl (Stream_Item_c e2) (CoL.refl _) (.cons .p0 .nil) rfl rfl <| rM rfl rfl <| bndE h fun v4 e3 h => t_call1 rfl (Stream_ItemList_c e3) (CoL.refl _) (.cons .p0 .nil) (fun _ => rfl) rfl fun b5 => n_alloc rfl rfl rfl rfl fun b6 => n_alloc rfl rfl rfl rfl fun b7 => n_store_ptr rfl rfl rfl rfl .p1 rfl rfl <| n_store_ptr rfl rfl rfl rfl .p0 rfl rfl <| rA rfl rfl <| rN <| tSR <| ARun.qv (q_load_ptr_all rfl rfl .p1 rfl) rfl <| ARun.qv (q_load_ptr_all rfl rfl .p0 rfl) rfl <| bndE h fun v8 e4 h => r_callp rfl (device_Matches_c e4) (CoL.refl _) rfl <| rM rfl rfl <| rX rfl rfl rfl <| rX rfl rfl rfl <| rA rfl rfl <| rA rfl rfl <| rN <| tSR <| ARun.qv (q_load_ptr_all rfl rfl .p1 rfl) rfl <| rM rfl rfl <| bndE h fun v9 e5 h => t_callL1 rfl (device_Select_c e5) .nil (.cons (.co (.refl _)) (.cons (CoB.arrT .p3) .nil)) (fun _ => rfl) (fun _ => rfl) (fun _ => (.cons (NoS.arrT (fun _ => rfl)) .nil)) rfl fun b10 => rM rfl rfl <| rX rfl rfl rfl <| rX rfl rfl rfl <| rA rfl rfl <| rA rfl rfl <| rN <| tS <| ATodo.regionM (id := 5) (A := [0, 1, 0, 7, 15, 31, 0, 127, 0, 511, 1023, 2047, 4095, 8191]) 14 mixed rfl (by kernel_rfl) (by kernel_rfl) <| AM.qv (q_load_ptr_all rfl rfl .p2 rfl) rfl <| bndE h fun v11 e6 h => AM.callp rfl (Q_QueryFault_c e6) (CoL.refl _) rfl <| AM.qv (q_load_ptr_all rfl rfl .p1 rfl) rfl <| bndE h fun v12 e7 h => AM.callp rfl (Q_ItemFault_c e7) (CoL.refl _) rfl <| AM.buildSliceL (xs := ([v11, v12] : List Int).map I) rfl rfl rfl rfl rfl rfl <| bndE h fun v13 e8 h => AM.callp rfl (cmp_Or_Errno_c e8) (CoL.refl _) rfl <| AM.qv (q_load_ptr_all rfl rfl .p2 rfl) rfl <| bndE h fun v14 e9 h => AM.callp rfl (Q_QueryFault_c e9) (CoL.refl _) rfl <| AM.qv (q_move rfl) rfl <| bndE h fun v15 e10 h => AM.callpB rfl (Q_ItemsFault_c e10) (.cons (CoB.arrT .p4) .nil) rfl rfl <| AM.buildSliceL (xs := ([v14, v15] : List Int).map I) rfl rfl rfl rfl rfl rfl <| bndE h fun v16 e11 h => AM.callp rfl (cmp_Or_Errno_c e11) (CoL.refl _) rfl <| AM.qv (q_assign rfl) rfl <| AM.qv (q_assign rfl) rfl <| AM.nil <| rN <| tS <| tS <| ATodo.cut (fun σ' => ∃ (c17 : Bool), L_QueriesMatch_j1 v2 v4 v9 v16 c17 = some r ∧ σ' = ⟨94, [(4, .ptr b6 0), (6, .sl 8 b5 0 v4.1.length), (9, .sl 1 b10 0 v9.1.length), (12, I v16), (67, .bool c17)], [(b6, .cells [I v2.1.Kind, .str v2.1.Field, .str v2.1.Op, I v2.1.Value.Kind, .bool v2.1.Value.Flag, I v2.1.Value.Number, .str v2.1.Value.Words, I v2.1.Version.Major, I v2.1.Version.Minor, I v2.1.Version.Patch, .list 11 (v2.1.Kids.map Query.av)]), (b5, .arr 8 (v4.1.map ItemS.av)), (b10, .arr 1 (v9.1.map AV.str))]⟩) ?_ ?_
  · refine tR <| rM rfl rfl <| rM rfl rfl <| ARun.qv (q_neq rfl rfl) rfl <| rM rfl rfl <| ARun.guard_df rfl rfl rfl (fun hc => ?_) (fun hc => ?_)
    · refine have h := iteF hc h; rM rfl rfl <| rY rfl rfl rfl <| rM rfl rfl <| rY rfl rfl rfl <| ARun.qv (q_neq rfl rfl) rfl <| rE rfl rfl rfl <| rM rfl rfl <| ARun.guard_df rfl rfl rfl (fun hc => ?_) (fun hc => ?_)
      · refine have h := iteF hc h; rM rfl rfl <| rY rfl rfl rfl <| rM rfl rfl <| rY rfl rfl rfl <| ARun.qv (q_eql rfl rfl) rfl <| rY rfl rfl rfl <| rM rfl rfl <| ARun.guard_dt rfl rfl rfl (fun hc => ?_) (fun hc => ?_)
        · exact have h := iteT hc h; ARun.qv (q_load_ptr_all rfl rfl .p2 rfl) rfl <| rY rfl rfl rfl <| ARun.qv (q_load_ptr_all rfl rfl .p1 rfl) rfl <| rY rfl rfl rfl <| bndE h fun v18 e12 h => r_callp rfl (Q_MatchesItem_c e12) (CoL.refl _) rfl <| rY rfl rfl rfl <| rT rfl rfl rfl <| rY rfl rfl rfl <| ARun.qv (q_bne rfl rfl) rfl <| rE rfl rfl rfl <| rN <| ATodo.stop <| ImpX.lq [2, 3, 0] ⟨v8.1 != v18, h, rfl⟩ rfl rfl
        · exact have h := iteF hc h; rG rfl rfl rfl rfl <| rG rfl rfl rfl rfl <| rY rfl rfl rfl <| rE rfl rfl rfl <| rY rfl rfl rfl <| ARun.qv (q_bne rfl rfl) rfl <| rE rfl rfl rfl <| rN <| ATodo.stop <| ImpX.lq [2, 3, 0] ⟨v8.1 != false, h, rfl⟩ rfl rfl
      · exact have h := iteT hc h; rG rfl rfl rfl rfl <| rG rfl rfl rfl rfl <| rG rfl rfl rfl rfl <| ARun.guard_und rfl rfl rfl <| ARun.guard_und rfl rfl rfl <| ARun.guard_und rfl rfl rfl <| rG rfl rfl rfl rfl <| rG rfl rfl rfl rfl <| rT rfl rfl rfl <| rN <| ATodo.stop <| ImpX.lq [2, 3, 0] ⟨true, h, rfl⟩ rfl rfl
    · exact have h := iteT hc h; rG rfl rfl rfl rfl <| rG rfl rfl rfl rfl <| rT rfl rfl rfl <| rM rfl rfl <| rG rfl rfl rfl rfl <| rG rfl rfl rfl rfl <| rG rfl rfl rfl rfl <| rG rfl rfl rfl rfl <| ARun.guard_und rfl rfl rfl <| ARun.guard_und rfl rfl rfl <| ARun.guard_und rfl rfl rfl <| rG rfl rfl rfl rfl <| rG rfl rfl rfl rfl <| rT rfl rfl rfl <| rN <| ATodo.stop <| ImpX.lq [2, 3, 0] ⟨true, h, rfl⟩ rfl rfl
  · rintro σ' ⟨c17, h, rfl⟩
    unfold L_QueriesMatch_j1 at h
    refine ATodo.cond rfl (fun hc => ?_) (fun hc => ?_)
    · refine have h := iteT hc h; tSR <| rA rfl rfl <| rN <| ATodo.ret <| ?_
      obtain rfl := Option.some.inj h
      exact ImpX.here ⟨_, .cons (.tmp _ _ rfl) .nil, rfl⟩
    · refine have h := iteFb hc h; tK <| tSR <| rA rfl rfl <| rN <| tS <| tSR <| rM rfl rfl <| ARun.qv (t_len_sl rfl) rfl <| rM rfl rfl <| rN <| ATodo.block <| ATodo.loopI (fun x : (List Str) × Int => L_QueriesMatch_b1 v2 v4 v9 v16 x.1 x.2) (fun x σ' => ∃ (b22 : Bk), σ' = ⟨94, [(4, .ptr b6 0), (9, .sl 1 b10 0 v9.1.length), (12, I v16), (13, .sl 1 b22 0 x.1.length), (68, .sl 8 b5 0 v4.1.length), (69, I (v4.1.length : Int)), (70, I x.2)], [(b6, .cells [I v2.1.Kind, .str v2.1.Field, .str v2.1.Op, I v2.1.Value.Kind, .bool v2.1.Value.Flag, I v2.1.Value.Number, .str v2.1.Value.Words, I v2.1.Version.Major, I v2.1.Version.Minor, I v2.1.Version.Patch, .list 11 (v2.1.Kids.map Query.av)]), (b10, .arr 1 (v9.1.map AV.str)), (b22, .arr 1 (x.1.map AV.str)), (b5, .arr 8 (v4.1.map ItemS.av))]⟩) h ?_ ?_
      · exact ImpX.arr (s := 13) 1 rfl fun b25 => ImpX.lq [1, 2, 0, 0] ⟨b25, rfl⟩ rfl rfl
      · intro x z1 σ' J1 hmk h hJ1 hA1
        obtain ⟨l23, n24⟩ := x
        obtain ⟨b22, rfl⟩ := hmk
        replace h : L_QueriesMatch_b1 v2 v4 v9 v16 l23 n24 = some z1 := h
        unfold L_QueriesMatch_b1 at h
        refine tSR <| ARun.qv (q_lss rfl rfl) rfl <| rN <| tS <| ATodo.cond_d rfl (fun hc => ?_) (fun hc => ?_)
        · refine have h := iteT hc h; tK <| tS <| ATodo.block <| tSR <| bndE h fun v26 e13 h => ARun.qv (t_index_sl rfl rfl rfl e13) rfl <| ARun.qv (t_load_aptr_agg (g := ItemS.av) rfl rfl (.inl .p3) rfl e13 rfl) rfl <| n_alloc rfl rfl rfl rfl fun b27 => n_store_ptr rfl rfl rfl rfl .p0 rfl rfl <| rN <| tS <| ATodo.cut (fun σ' => ∃ (c28 : Bool), L_QueriesMatch_j2 l23 n24 v26 c28 = some z1 ∧ σ' = ⟨94, [(4, .ptr b6 0), (9, .sl 1 b10 0 v9.1.length), (12, I v16), (13, .sl 1 b22 0 l23.length), (15, .ptr b27 0), (68, .sl 8 b5 0 v4.1.length), (69, I (v4.1.length : Int)), (70, I n24), (80, .bool c28)], [(b6, .cells [I v2.1.Kind, .str v2.1.Field, .str v2.1.Op, I v2.1.Value.Kind, .bool v2.1.Value.Flag, I v2.1.Value.Number, .str v2.1.Value.Words, I v2.1.Version.Major, I v2.1.Version.Minor, I v2.1.Version.Patch, .list 11 (v2.1.Kids.map Query.av)]), (b10, .arr 1 (v9.1.map AV.str)), (b22, .arr 1 (l23.map AV.str)), (b27, .cells [.str v26.Device.Key, .str v26.Device.Model, .str v26.Device.Tenant, I v26.Device.Firmware.Major, I v26.Device.Firmware.Minor, I v26.Device.Firmware.Patch, .list 2 (v26.Device.Tags.map Pair.av), .list 5 (v26.Props.map PropS.av)]), (b5, .arr 8 (v4.1.map ItemS.av))]⟩) ?_ ?_
          · refine tR <| rM rfl rfl <| ARun.qv (q_eql rfl rfl) rfl <| rM rfl rfl <| ARun.guard_dt rfl rfl rfl (fun hc => ?_) (fun hc => ?_)
            · exact have h := iteT hc h; ARun.qv (q_load_ptr_all rfl rfl .p1 rfl) rfl <| rY rfl rfl rfl <| ARun.qv (q_load_ptr_all rfl rfl .p0 rfl) rfl <| rY rfl rfl rfl <| bndE h fun v29 e14 h => r_callp rfl (Q_MatchesItem_c e14) (CoL.refl _) rfl <| rT rfl rfl rfl <| rN <| ATodo.stop <| ImpX.lq [1, 1, 1, 0, 0] ⟨v29, h, rfl⟩ rfl rfl
            · exact have h := iteF hc h; rG rfl rfl rfl rfl <| rG rfl rfl rfl rfl <| rE rfl rfl rfl <| rN <| ATodo.stop <| ImpX.lq [1, 1, 1, 0, 0] ⟨false, h, rfl⟩ rfl rfl
          · rintro σ' ⟨c28, h, rfl⟩
            unfold L_QueriesMatch_j2 at h
            refine ATodo.cut (fun σ' => ∃ (b30 : Bk) (l31 : List Str), L_QueriesMatch_j3 n24 l31 = some z1 ∧ σ' = ⟨94, [(4, .ptr b6 0), (9, .sl 1 b10 0 v9.1.length), (12, I v16), (13, .sl 1 b30 0 l31.length), (68, .sl 8 b5 0 v4.1.length), (69, I (v4.1.length : Int)), (70, I n24)], [(b6, .cells [I v2.1.Kind, .str v2.1.Field, .str v2.1.Op, I v2.1.Value.Kind, .bool v2.1.Value.Flag, I v2.1.Value.Number, .str v2.1.Value.Words, I v2.1.Version.Major, I v2.1.Version.Minor, I v2.1.Version.Patch, .list 11 (v2.1.Kids.map Query.av)]), (b10, .arr 1 (v9.1.map AV.str)), (b30, .arr 1 (l31.map AV.str)), (b5, .arr 8 (v4.1.map ItemS.av))]⟩) ?_ ?_
            · refine ATodo.cond rfl (fun hc => ?_) (fun hc => ?_)
              · exact have h := iteT hc h; tR <| rM rfl rfl <| rF rfl rfl rfl <| rF rfl rfl rfl <| rL rfl rfl .p3 rfl rfl <| n_buildSliceL (xs := ([v26.Device.Key] : List Str).map AV.str) rfl rfl rfl rfl rfl rfl <| bndE h fun l32 e15 h => t_append (g := AV.str) rfl rfl rfl rfl rfl rfl rfl rfl (.list _) e15 (fun _ => .p2) rfl fun b33 => rA rfl rfl <| rN <| ATodo.stop <| ImpX.lq [0, 0, 0, 1] ⟨b33, l32, h, rfl⟩ rfl rfl
              · exact have h := iteFb hc h; tK <| ATodo.stop <| ImpX.lq [0, 0, 0, 1] ⟨b22, l23, h, rfl⟩ rfl rfl
            · rintro σ' ⟨b30, l31, h, rfl⟩
              unfold L_QueriesMatch_j3 at h
              refine ATodo.blk <| tR <| ARun.qv (q_addw rfl rfl) rfl <| rM rfl rfl <| rN <| ATodo.stop <| ?_
              obtain rfl := Option.some.inj h
              exact hJ1 _ _ rfl <| ImpX.lq [0, 0, 0, 0] ⟨b30, rfl⟩ rfl rfl
        · refine have h := iteF hc h; ATodo.exit rfl <| have h := outL h hA1; ?_
          unfold L_QueriesMatch_k5 at h
          refine tS <| ATodo.cut (fun σ' => ∃ (c34 : Bool), L_QueriesMatch_j4 c34 = some r ∧ σ' = ⟨94, [(2, .bool c34)], []⟩) ?_ ?_
          · refine tR <| rM rfl rfl <| rM rfl rfl <| bndE h fun v35 e16 h => r_callpB rfl (slices_Equal_string_string_c e16) (.cons (CoB.arrT .p1) (.cons (CoB.arrT .p2) .nil)) rfl rfl <| rM rfl rfl <| ARun.guard rfl rfl rfl (fun hc => ?_) (fun hc => ?_)
            · exact have h := iteT hc h; bndE h fun v36 e17 h => r_callp rfl (L_deviced_c e17) (CoL.refl _) rfl <| rT rfl rfl rfl <| rA rfl rfl <| rN <| ATodo.stop <| ImpX.lq [] ⟨v36, h, rfl⟩ rfl rfl
            · exact have h := iteFb hc h; rE rfl rfl rfl <| rA rfl rfl <| rN <| ATodo.stop <| ImpX.lq [] ⟨false, h, rfl⟩ rfl rfl
          · rintro σ' ⟨c34, h, rfl⟩
            unfold L_QueriesMatch_j4 at h
            refine ATodo.ret <| ?_
            obtain rfl := Option.some.inj h
            exact ImpX.here ⟨_, .cons (.tmp _ _ rfl) .nil, rfl⟩

end Go.Proofs.YtohnopfmfehhkaaGreatDoor

