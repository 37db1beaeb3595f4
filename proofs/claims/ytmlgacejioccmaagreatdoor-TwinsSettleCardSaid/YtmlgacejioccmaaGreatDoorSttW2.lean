/- The code computes the plain functions: proofs written by shal.py. -/
import Derived.Test.YtmlgacejioccmaaGreatDoorSttW1
set_option maxRecDepth 100000
set_option linter.unusedVariables false
set_option linter.unusedSimpArgs false
namespace Go.Proofs.YtmlgacejioccmaaGreatDoor
open Go Go.Eng Go.Proofs Go.Beacon
attribute [local irreducible] ARun ATodo AQ QV ACall ImpX AWp AM
set_option maxHeartbeats 4000000 in
theorem twin_Settled_c {p0x0 : TwinS} {r : Bool × Int} (h : twin_Settled p0x0 = some r) : Pu Tryz.prog 31 [.agg [.list 8 (p0x0.Desired.map Cell.av), .list 8 (p0x0.Reported.map Cell.av)]] (.tup [.bool r.1, I r.2]) := by
  unfold twin_Settled at h
  refine ACall.bodyN Tryz.func31 rfl Tryz.ntmps31 Tryz.results31 rfl rfl ?_
  refine tSR <| n_box rfl rfl rfl rfl fun b1 => rA rfl rfl <| rA rfl rfl <| rN <| tSR <| ARun.qv (q_load_ptr_all rfl rfl .p0 rfl) rfl <| bndE h fun v2 e1 h => t_call1 rfl (twin_Owed_c e1) (CoL.refl _) .nil (fun _ => rfl) rfl fun b3 => rM rfl rfl <| rX rfl rfl rfl <| rX rfl rfl rfl <| rA rfl rfl <| rA rfl rfl <| rN <| tS <| ATodo.cut (fun σ' => ∃ (c4 : Bool), twin_Settled_j1 v2 c4 = some r ∧ σ' = ⟨19, [(2, .bool c4), (3, I v2.2)], []⟩) ?_ ?_
  · refine tR <| rM rfl rfl <| ARun.qv (q_eql rfl rfl) rfl <| rM rfl rfl <| ARun.guard_dt rfl rfl rfl (fun hc => ?_) (fun hc => ?_)
    · rw [andTd hc] at h
      exact rM rfl rfl <| rY rfl rfl rfl <| ARun.qv (t_len_sl rfl) rfl <| rY rfl rfl rfl <| ARun.qv (q_eql rfl rfl) rfl <| rT rfl rfl rfl <| rM rfl rfl <| rA rfl rfl <| rA rfl rfl <| rN <| ATodo.stop <| ImpX.lq [] ⟨decide ((v2.1.length : Int) = (0 : Int)), h, rfl⟩ rfl rfl
    · rw [andFd hc] at h
      exact rG rfl rfl rfl rfl <| rG rfl rfl rfl rfl <| rE rfl rfl rfl <| rM rfl rfl <| rA rfl rfl <| rA rfl rfl <| rN <| ATodo.stop <| ImpX.lq [] ⟨false, h, rfl⟩ rfl rfl
  · rintro σ' ⟨c4, h, rfl⟩
    unfold twin_Settled_j1 at h
    refine ATodo.ret <| ?_
    obtain rfl := Option.some.inj h
    exact ImpX.here ⟨_, .cons (.tmp _ _ rfl) (.cons (.tmp _ _ rfl) .nil), rfl⟩

set_option maxHeartbeats 4000000 in
theorem Q_in_c [GI : GTab] {p0x0 : Int} {p1x0 : Int} {p2x0 : Int} {r : Bool} (h : Q_in p0x0 p1x0 p2x0 = r) : Pu Tryz.prog 92 [I p0x0, I p1x0, I p2x0] (.bool r) := by
  unfold Q_in at h
  refine ACall.bodyN Tryz.func92 rfl Tryz.ntmps92 Tryz.results92 rfl rfl ?_
  refine tSR <| rA rfl rfl <| rN <| tS <| ATodo.cut (fun σ' => ∃ (c1 : Bool), Q_in_j1 c1 = r ∧ σ' = ⟨15, [(6, .bool c1)], []⟩) ?_ ?_
  · refine tR <| rM rfl rfl <| rM rfl rfl <| ARun.qv (q_leq rfl rfl) rfl <| rM rfl rfl <| ARun.guard_dt rfl rfl rfl (fun hc => ?_) (fun hc => ?_)
    · rw [andTd hc] at h
      exact rM rfl rfl <| rY rfl rfl rfl <| rM rfl rfl <| rY rfl rfl rfl <| ARun.qv (q_leq rfl rfl) rfl <| rT rfl rfl rfl <| rA rfl rfl <| rN <| ATodo.stop <| ImpX.lq [] ⟨decide (p0x0 ≤ p2x0), h, rfl⟩ rfl rfl
    · rw [andFd hc] at h
      exact rG rfl rfl rfl rfl <| rG rfl rfl rfl rfl <| rE rfl rfl rfl <| rA rfl rfl <| rN <| ATodo.stop <| ImpX.lq [] ⟨false, h, rfl⟩ rfl rfl
  · rintro σ' ⟨c1, h, rfl⟩
    unfold Q_in_j1 at h
    refine ATodo.ret <| ?_
    obtain rfl := h
    exact ImpX.here ⟨_, .cons (.tmp _ _ rfl) .nil, rfl⟩

set_option maxHeartbeats 4000000 in
theorem Q_only_c [GI : GTab] {p0x0 : Str} {p1x0 : Str} {r : Bool} (h : Q_only p0x0 p1x0 = some r) : Pu Tryz.prog 135 [.str p0x0, .str p1x0] (.bool r) := by
  unfold Q_only at h
  refine ACall.bodyN Tryz.func135 rfl Tryz.ntmps135 Tryz.results135 rfl rfl ?_
  refine tSR <| rA rfl rfl <| rN <| tS <| tSR <| rM rfl rfl <| ARun.qv (q_len_str rfl) rfl <| rM rfl rfl <| rN <| ATodo.block <| ATodo.loopI (fun x : Int => Q_only_b1 p0x0 p1x0 x) (fun x σ' => σ' = ⟨18, [(0, .str p0x0), (1, .str p1x0), (7, I (p0x0.length : Int)), (8, I x)], []⟩) h ?_ ?_
  · exact ImpX.lq [] rfl rfl rfl
  · intro n2 z1 σ' J1 hmk h hJ1 hA1
    obtain rfl := hmk
    replace h : Q_only_b1 p0x0 p1x0 n2 = some z1 := h
    unfold Q_only_b1 at h
    refine tSR <| ARun.qv (q_lss rfl rfl) rfl <| rN <| tS <| ATodo.cond_d rfl (fun hc => ?_) (fun hc => ?_)
    · refine have h := iteT hc h; tK <| tS <| ATodo.block <| tSR <| rM rfl rfl <| rA rfl rfl <| rN <| tSR <| rM rfl rfl <| rM rfl rfl <| rM rfl rfl <| bndE h fun c3 e1 h => ARun.qv (t_index_str rfl rfl e1) rfl <| r_callp rfl (strings_IndexByte_c rfl) (CoL.refl _) rfl <| ARun.qv (q_lss rfl rfl) rfl <| rN <| ATodo.cond_d rfl (fun hc => ?_) (fun hc => ?_)
      · refine have h := iteT hc h; tSR <| rA rfl rfl <| rN <| ATodo.ret <| have h := outL h hA1; ?_
        obtain rfl := Option.some.inj h
        exact ImpX.here ⟨_, .cons (.tmp _ _ rfl) .nil, rfl⟩
      · refine have h := iteF hc h; tK <| ATodo.blk <| tR <| ARun.qv (q_addw rfl rfl) rfl <| rM rfl rfl <| rN <| ATodo.stop <| ?_
        obtain rfl := Option.some.inj h
        exact hJ1 _ _ rfl <| ImpX.lq [] rfl rfl rfl
    · refine have h := iteF hc h; ATodo.exit rfl <| have h := outL h hA1; tSR <| rA rfl rfl <| rN <| ATodo.ret <| ?_
      obtain rfl := Option.some.inj h
      exact ImpX.here ⟨_, .cons (.tmp _ _ rfl) .nil, rfl⟩

set_option maxHeartbeats 4000000 in
theorem Q_Key_c [GI : GTab] {p0x0 : Str} {r : Bool} (h : Q_Key p0x0 = some r) : Pu Tryz.prog 91 [.str p0x0] (.bool r) := by
  unfold Q_Key at h
  refine ACall.bodyN Tryz.func91 rfl Tryz.ntmps91 Tryz.results91 rfl rfl ?_
  refine tSR <| rA rfl rfl <| rN <| tS <| ATodo.cut (fun σ' => ∃ (c1 : Bool), Q_Key_j1 c1 = some r ∧ σ' = ⟨15, [(2, .bool c1)], []⟩) ?_ ?_
  · refine tR <| rM rfl rfl <| ARun.qv (q_len_str rfl) rfl <| r_callp rfl (Q_in_c rfl) (CoL.refl _) rfl <| rM rfl rfl <| ARun.guard rfl rfl rfl (fun hc => ?_) (fun hc => ?_)
    · refine have h := iteT hc h; rM rfl rfl <| rY rfl rfl rfl <| bndE h fun l2 e1 h => ARun.qv (t_slice_str rfl .none (.some _ _ _ rfl) rfl rfl e1) rfl <| rY rfl rfl rfl <| bndE h fun v3 e2 h => r_callp rfl (Q_only_c e2) (CoL.refl _) rfl <| rT rfl rfl rfl <| rM rfl rfl <| ARun.guard rfl rfl rfl (fun hc => ?_) (fun hc => ?_)
      · exact have h := iteT hc h; rM rfl rfl <| rY rfl rfl rfl <| bndE h fun v4 e3 h => r_callp rfl (Q_only_c e3) (CoL.refl _) rfl <| rT rfl rfl rfl <| rA rfl rfl <| rN <| ATodo.stop <| ImpX.lq [] ⟨v4, h, rfl⟩ rfl rfl
      · exact have h := iteFb hc h; rG rfl rfl rfl rfl <| rE rfl rfl rfl <| rA rfl rfl <| rN <| ATodo.stop <| ImpX.lq [] ⟨false, h, rfl⟩ rfl rfl
    · exact have h := iteFb hc h; rG rfl rfl rfl rfl <| rG rfl rfl rfl rfl <| rE rfl rfl rfl <| rM rfl rfl <| rG rfl rfl rfl rfl <| rG rfl rfl rfl rfl <| rE rfl rfl rfl <| rA rfl rfl <| rN <| ATodo.stop <| ImpX.lq [] ⟨false, h, rfl⟩ rfl rfl
  · rintro σ' ⟨c1, h, rfl⟩
    unfold Q_Key_j1 at h
    refine ATodo.ret <| ?_
    obtain rfl := Option.some.inj h
    exact ImpX.here ⟨_, .cons (.tmp _ _ rfl) .nil, rfl⟩

set_option maxHeartbeats 4000000 in
theorem Q_PropName_1x_c [GI : GTab] {p0x0 : Str} {r : Bool} (h : Q_PropName_1x p0x0 = some r) : Pu Tryz.prog 103 [.str p0x0] (.bool r) := by
  unfold Q_PropName_1x at h
  refine ACall.bodyN Tryz.func103 rfl Tryz.ntmps103 Tryz.results103 rfl rfl ?_
  refine tSR <| rA rfl rfl <| rN <| tSR <| rM rfl rfl <| bndE h fun v1 e1 h => r_callp rfl (Q_Key_c e1) (CoL.refl _) rfl <| ARun.qv (q_not rfl) rfl <| rA rfl rfl <| rN <| ATodo.ret <| ?_
  obtain rfl := Option.some.inj h
  exact ImpX.here ⟨_, .cons (.tmp _ _ rfl) .nil, rfl⟩

set_option maxHeartbeats 4000000 in
theorem Q_PropName_c {p0x0 : Str} {r : Bool} (h : Q_PropName p0x0 = some r) : Pu Tryz.prog 52 [.str p0x0] (.bool r) := by
  unfold Q_PropName at h
  refine ACall.bodyN Tryz.func52 rfl Tryz.ntmps52 Tryz.results52 rfl rfl ?_
  refine tSR <| rA rfl rfl <| rN <| tSR <| rM rfl rfl <| bndE h fun v1 e1 h => t_call1 rfl (strings_Split_c e1) (CoL.refl _) .nil (fun _ => rfl) rfl fun b2 => rA rfl rfl <| rN <| tS <| ATodo.cut (fun σ' => ∃ (c3 : Bool), Q_PropName_j1 c3 = some r ∧ σ' = ⟨14, [(2, .bool c3)], []⟩) ?_ ?_
  · refine tR <| rM rfl rfl <| ARun.qv (t_len_sl rfl) rfl <| ARun.qv (q_leq rfl rfl) rfl <| rM rfl rfl <| ARun.guard_dt rfl rfl rfl (fun hc => ?_) (fun hc => ?_)
    · exact have h := iteT hc h; rM rfl rfl <| rY rfl rfl rfl <| bndE h fun v4 e2 h => r_callpB rfl (slices_ContainsFunc_string_string_c (fun e => Q_PropName_1x_c e) e2) (.cons (CoB.arrT .p0) (.cons (.funcL _ _ _ .nil) .nil)) rfl rfl <| rY rfl rfl rfl <| ARun.qv (q_not rfl) rfl <| rT rfl rfl rfl <| rA rfl rfl <| rN <| ATodo.stop <| ImpX.lq [] ⟨!v4, h, rfl⟩ rfl rfl
    · exact have h := iteF hc h; rG rfl rfl rfl rfl <| rG rfl rfl rfl rfl <| rE rfl rfl rfl <| rA rfl rfl <| rN <| ATodo.stop <| ImpX.lq [] ⟨false, h, rfl⟩ rfl rfl
  · rintro σ' ⟨c3, h, rfl⟩
    unfold Q_PropName_j1 at h
    refine ATodo.ret <| ?_
    obtain rfl := Option.some.inj h
    exact ImpX.here ⟨_, .cons (.tmp _ _ rfl) .nil, rfl⟩

set_option maxHeartbeats 4000000 in
theorem Q_Printed_1x_c [GI : GTab] {p0x0 : Int} {r : Bool} (h : Q_Printed_1x p0x0 = r) : Pu Tryz.prog 141 [.int .i32 p0x0] (.bool r) := by
  unfold Q_Printed_1x at h
  refine ACall.bodyN Tryz.func141 rfl Tryz.ntmps141 Tryz.results141 rfl rfl ?_
  refine tSR <| rA rfl rfl <| rN <| tS <| ATodo.cut (fun σ' => ∃ (c1 : Bool), Q_Printed_1x_j1 c1 = r ∧ σ' = ⟨9, [(2, .bool c1)], []⟩) ?_ ?_
  · refine tR <| rM rfl rfl <| ARun.qv (q_lss rfl rfl) rfl <| rM rfl rfl <| ARun.guard_df rfl rfl rfl (fun hc => ?_) (fun hc => ?_)
    · rw [orFd hc] at h
      exact rM rfl rfl <| rY rfl rfl rfl <| ARun.qv (q_eql rfl rfl) rfl <| rE rfl rfl rfl <| rA rfl rfl <| rN <| ATodo.stop <| ImpX.lq [] ⟨decide (p0x0 = (127 : Int)), h, rfl⟩ rfl rfl
    · rw [orTd hc] at h
      exact rG rfl rfl rfl rfl <| rT rfl rfl rfl <| rA rfl rfl <| rN <| ATodo.stop <| ImpX.lq [] ⟨true, h, rfl⟩ rfl rfl
  · rintro σ' ⟨c1, h, rfl⟩
    unfold Q_Printed_1x_j1 at h
    refine ATodo.ret <| ?_
    obtain rfl := h
    exact ImpX.here ⟨_, .cons (.tmp _ _ rfl) .nil, rfl⟩

set_option maxHeartbeats 4000000 in
theorem Q_Printed_c {p0x0 : Str} {r : Bool} (h : Q_Printed p0x0 = some r) : Pu Tryz.prog 104 [.str p0x0] (.bool r) := by
  unfold Q_Printed at h
  refine ACall.bodyN Tryz.func104 rfl Tryz.ntmps104 Tryz.results104 rfl rfl ?_
  refine tSR <| rA rfl rfl <| rN <| tS <| ATodo.cut (fun σ' => ∃ (c1 : Bool), Q_Printed_j1 c1 = some r ∧ σ' = ⟨10, [(2, .bool c1)], []⟩) ?_ ?_
  · refine tR <| rM rfl rfl <| bndE h fun v2 e1 h => r_callp rfl (utf8_ValidString_c e1) (CoL.refl _) rfl <| rM rfl rfl <| ARun.guard rfl rfl rfl (fun hc => ?_) (fun hc => ?_)
    · exact have h := iteT hc h; rM rfl rfl <| rY rfl rfl rfl <| bndE h fun v3 e2 h => r_callpB rfl (strings_ContainsFunc_c (fun e => Q_Printed_1x_c (Option.some.inj e)) e2) (.cons (.co (.refl _)) (.cons (.funcL _ _ _ .nil) .nil)) rfl rfl <| rY rfl rfl rfl <| ARun.qv (q_not rfl) rfl <| rT rfl rfl rfl <| rA rfl rfl <| rN <| ATodo.stop <| ImpX.lq [] ⟨!v3, h, rfl⟩ rfl rfl
    · exact have h := iteFb hc h; rG rfl rfl rfl rfl <| rG rfl rfl rfl rfl <| rE rfl rfl rfl <| rA rfl rfl <| rN <| ATodo.stop <| ImpX.lq [] ⟨false, h, rfl⟩ rfl rfl
  · rintro σ' ⟨c1, h, rfl⟩
    unfold Q_Printed_j1 at h
    refine ATodo.ret <| ?_
    obtain rfl := Option.some.inj h
    exact ImpX.here ⟨_, .cons (.tmp _ _ rfl) .nil, rfl⟩

set_option maxHeartbeats 4000000 in
theorem Q_ValueFault_c {p0x0 : ValueS} {r : Int} (h : Q_ValueFault p0x0 = some r) : Pu Tryz.prog 53 [.agg [I p0x0.Kind, .bool p0x0.Flag, I p0x0.Number, .str p0x0.Words]] (I r) := by
  unfold Q_ValueFault at h
  refine ACall.bodyN Tryz.func53 rfl Tryz.ntmps53 Tryz.results53 rfl rfl ?_
  refine tSR <| n_box rfl rfl rfl rfl fun b1 => rA rfl rfl <| rN <| tS <| tSR <| rF rfl rfl rfl <| rL rfl rfl .p0 rfl rfl <| r_callp rfl (Q_in_c rfl) (CoL.refl _) rfl <| ARun.qv (q_not rfl) rfl <| rN <| ATodo.cond rfl (fun hc => ?_) (fun hc => ?_)
  · refine have h := iteT hc h; tSR <| rA rfl rfl <| rN <| ATodo.ret <| ?_
    obtain rfl := Option.some.inj h
    exact ImpX.here ⟨_, .cons (.tmp _ _ rfl) .nil, rfl⟩
  · refine have h := iteFb hc h; tK <| tSR <| rF rfl rfl rfl <| rL rfl rfl .p0 rfl rfl <| ARun.qv (n_build rfl rfl rfl rfl rfl) rfl <| n_alloc rfl rfl rfl rfl fun b2 => n_store_ptr rfl rfl rfl rfl .p0 rfl rfl <| rN <| tS <| tSR <| rF rfl rfl rfl <| rL rfl rfl .p1 rfl rfl <| rN <| ATodo.block <| tSR <| ARun.qv (q_eql rfl rfl) rfl <| rA rfl rfl <| rN <| ATodo.cut (fun σ' => ∃ (c3 : Bool) (n4 : Int) (q5 : Str), Q_ValueFault_j1 p0x0 c3 n4 q5 = some r ∧ σ' = ⟨47, [(1, .ptr b1 0), (3, .ptr b2 0)], [(b1, .cells [I p0x0.Kind, .bool p0x0.Flag, I p0x0.Number, .str p0x0.Words]), (b2, .cells [I p0x0.Kind, .bool c3, I n4, .str q5])]⟩) ?_ ?_
    · refine ATodo.cond_d rfl (fun hc => ?_) (fun hc => ?_)
      · exact have h := iteT hc h; tR <| rF rfl rfl rfl <| rL rfl rfl .p1 rfl rfl <| rF rfl rfl rfl <| n_store_ptr rfl rfl rfl rfl .p0 rfl rfl <| rN <| ATodo.stop <| ImpX.lq [1, 0] ⟨p0x0.Flag, (0 : Int), [], h, rfl⟩ rfl rfl
      · refine have h := iteF hc h; tSR <| ARun.qv (q_eql rfl rfl) rfl <| rA rfl rfl <| rN <| ATodo.cut (fun σ' => ∃ (n6 : Int) (q7 : Str), Q_ValueFault_j2 p0x0 n6 q7 = some r ∧ σ' = ⟨47, [(1, .ptr b1 0), (3, .ptr b2 0)], [(b1, .cells [I p0x0.Kind, .bool p0x0.Flag, I p0x0.Number, .str p0x0.Words]), (b2, .cells [I p0x0.Kind, .bool false, I n6, .str q7])]⟩) ?_ ?_
        · refine ATodo.cond_d rfl (fun hc => ?_) (fun hc => ?_)
          · exact have h := iteT hc h; tR <| rF rfl rfl rfl <| rL rfl rfl .p1 rfl rfl <| rF rfl rfl rfl <| n_store_ptr rfl rfl rfl rfl .p0 rfl rfl <| rN <| ATodo.stop <| ImpX.lq [1, 0] ⟨p0x0.Number, [], h, rfl⟩ rfl rfl
          · refine have h := iteF hc h; tSR <| ARun.qv (q_eql rfl rfl) rfl <| rA rfl rfl <| rN <| ATodo.cut (fun σ' => ∃ (q8 : Str), Q_ValueFault_j3 p0x0 q8 = some r ∧ σ' = ⟨47, [(1, .ptr b1 0), (3, .ptr b2 0)], [(b1, .cells [I p0x0.Kind, .bool p0x0.Flag, I p0x0.Number, .str p0x0.Words]), (b2, .cells [I p0x0.Kind, .bool false, I (0 : Int), .str q8])]⟩) ?_ ?_
            · refine ATodo.cond_d rfl (fun hc => ?_) (fun hc => ?_)
              · exact have h := iteT hc h; tR <| rF rfl rfl rfl <| rL rfl rfl .p1 rfl rfl <| rF rfl rfl rfl <| n_store_ptr rfl rfl rfl rfl .p0 rfl rfl <| rN <| ATodo.stop <| ImpX.lq [1, 0] ⟨p0x0.Words, h, rfl⟩ rfl rfl
              · exact have h := iteF hc h; tK <| ATodo.stop <| ImpX.lq [1, 0] ⟨[], h, rfl⟩ rfl rfl
            · rintro σ' ⟨q8, h, rfl⟩
              unfold Q_ValueFault_j3 at h
              exact ATodo.stop <| ImpX.lq [0, 0] ⟨(0 : Int), q8, h, rfl⟩ rfl rfl
        · rintro σ' ⟨n6, q7, h, rfl⟩
          unfold Q_ValueFault_j2 at h
          exact ATodo.stop <| ImpX.lq [0, 0] ⟨false, n6, q7, h, rfl⟩ rfl rfl
    · rintro σ' ⟨c3, n4, q5, h, rfl⟩
      unfold Q_ValueFault_j1 at h
      refine ATodo.blk <| tS <| ATodo.block <| tSR <| ARun.qv (q_load_ptr_all rfl rfl .p1 rfl) rfl <| ARun.qv (q_load_ptr_all rfl rfl .p0 rfl) rfl <| ARun.qv (t_tne (g := ValueS.av) (X := (⟨p0x0.Kind, c3, n4, q5⟩ : ValueS)) (Y := p0x0) rfl rfl rfl rfl rfl) rfl <| rA rfl rfl <| rN <| ATodo.cond_d rfl (fun hc => ?_) (fun hc => ?_)
      · refine have h := iteT hc h; tSR <| rA rfl rfl <| rN <| ATodo.ret <| ?_
        obtain rfl := Option.some.inj h
        exact ImpX.here ⟨_, .cons (.tmp _ _ rfl) .nil, rfl⟩
      · refine have h := iteF hc h; tSR <| rF rfl rfl rfl <| rL rfl rfl .p0 rfl rfl <| r_callp rfl (Q_in_c rfl) (CoL.refl _) rfl <| ARun.qv (q_not rfl) rfl <| rA rfl rfl <| rN <| ATodo.cond rfl (fun hc => ?_) (fun hc => ?_)
        · refine have h := iteT hc h; tSR <| rA rfl rfl <| rN <| ATodo.ret <| ?_
          obtain rfl := Option.some.inj h
          exact ImpX.here ⟨_, .cons (.tmp _ _ rfl) .nil, rfl⟩
        · refine have h := iteFb hc h; tSR <| rF rfl rfl rfl <| rL rfl rfl .p0 rfl rfl <| ARun.qv (q_len_str rfl) rfl <| ARun.qv (q_gtr rfl rfl) rfl <| rA rfl rfl <| rN <| ATodo.cond_d rfl (fun hc => ?_) (fun hc => ?_)
          · refine have h := iteT hc h; tSR <| rA rfl rfl <| rN <| ATodo.ret <| ?_
            obtain rfl := Option.some.inj h
            exact ImpX.here ⟨_, .cons (.tmp _ _ rfl) .nil, rfl⟩
          · refine have h := iteF hc h; tSR <| rF rfl rfl rfl <| rL rfl rfl .p0 rfl rfl <| bndE h fun v9 e1 h => r_callp rfl (Q_Printed_c e1) (CoL.refl _) rfl <| ARun.qv (q_not rfl) rfl <| rA rfl rfl <| rN <| ATodo.cond rfl (fun hc => ?_) (fun hc => ?_)
            · refine have h := iteT hc h; tSR <| rA rfl rfl <| rN <| ATodo.ret <| ?_
              obtain rfl := Option.some.inj h
              exact ImpX.here ⟨_, .cons (.tmp _ _ rfl) .nil, rfl⟩
            · refine have h := iteFb hc h; tK <| ATodo.blk <| tSR <| rA rfl rfl <| rN <| ATodo.ret <| ?_
              obtain rfl := Option.some.inj h
              exact ImpX.here ⟨_, .cons (.tmp _ _ rfl) .nil, rfl⟩

set_option maxHeartbeats 4000000 in
theorem Q_Moment_c [GI : GTab] {p0x0 : Int} {r : Bool} (h : Q_Moment p0x0 = r) : Pu Tryz.prog 90 [I p0x0] (.bool r) := by
  unfold Q_Moment at h
  refine ACall.bodyN Tryz.func90 rfl Tryz.ntmps90 Tryz.results90 rfl rfl ?_
  refine tSR <| rA rfl rfl <| rN <| tSR <| rM rfl rfl <| r_callp rfl (Q_in_c rfl) (CoL.refl _) rfl <| rA rfl rfl <| rN <| ATodo.ret <| ?_
  obtain rfl := h
  exact ImpX.here ⟨_, .cons (.tmp _ _ rfl) .nil, rfl⟩

set_option maxHeartbeats 4000000 in
theorem Q_StampFault_c [GI : GTab] {p0x0 : Stamp} {r : Int} (h : Q_StampFault p0x0 = some r) : Pu Tryz.prog 38 [.agg [I p0x0.At, .str p0x0.By, I p0x0.No]] (I r) := by
  unfold Q_StampFault at h
  refine ACall.bodyN Tryz.func38 rfl Tryz.ntmps38 Tryz.results38 rfl rfl ?_
  refine tSR <| n_box rfl rfl rfl rfl fun b1 => rA rfl rfl <| rN <| tS <| ATodo.block <| tSR <| rF rfl rfl rfl <| rL rfl rfl .p0 rfl rfl <| r_callp rfl (Q_Moment_c rfl) (CoL.refl _) rfl <| ARun.qv (q_not rfl) rfl <| rA rfl rfl <| rN <| ATodo.cond rfl (fun hc => ?_) (fun hc => ?_)
  · refine have h := iteT hc h; tSR <| rA rfl rfl <| rN <| ATodo.ret <| ?_
    obtain rfl := Option.some.inj h
    exact ImpX.here ⟨_, .cons (.tmp _ _ rfl) .nil, rfl⟩
  · refine have h := iteFb hc h; tSR <| rF rfl rfl rfl <| rL rfl rfl .p0 rfl rfl <| bndE h fun v2 e1 h => r_callp rfl (Q_Key_c e1) (CoL.refl _) rfl <| ARun.qv (q_not rfl) rfl <| rA rfl rfl <| rN <| ATodo.cond rfl (fun hc => ?_) (fun hc => ?_)
    · refine have h := iteT hc h; tSR <| rA rfl rfl <| rN <| ATodo.ret <| ?_
      obtain rfl := Option.some.inj h
      exact ImpX.here ⟨_, .cons (.tmp _ _ rfl) .nil, rfl⟩
    · refine have h := iteFb hc h; tSR <| rF rfl rfl rfl <| rL rfl rfl .p0 rfl rfl <| r_callp rfl (Q_in_c rfl) (CoL.refl _) rfl <| ARun.qv (q_not rfl) rfl <| rA rfl rfl <| rN <| ATodo.cond rfl (fun hc => ?_) (fun hc => ?_)
      · refine have h := iteT hc h; tSR <| rA rfl rfl <| rN <| ATodo.ret <| ?_
        obtain rfl := Option.some.inj h
        exact ImpX.here ⟨_, .cons (.tmp _ _ rfl) .nil, rfl⟩
      · refine have h := iteFb hc h; tK <| ATodo.blk <| tSR <| rA rfl rfl <| rN <| ATodo.ret <| ?_
        obtain rfl := Option.some.inj h
        exact ImpX.here ⟨_, .cons (.tmp _ _ rfl) .nil, rfl⟩

set_option maxHeartbeats 4000000 in
theorem Q_CellsFault_c {p0x0 : List Cell} {r : Int} (h : Q_CellsFault p0x0 = some r) : Pu Tryz.prog 10 [.list 8 (p0x0.map Cell.av)] (I r) := by
  unfold Q_CellsFault at h
  refine ACall.bodyN Tryz.func10 rfl Tryz.ntmps10 Tryz.results10 rfl rfl ?_
  refine tSR <| rA rfl rfl <| rN <| tS <| tSR <| rM rfl rfl <| ARun.qv (t_len rfl) rfl <| ARun.qv (q_gtr rfl rfl) rfl <| rN <| ATodo.cond_d rfl (fun hc => ?_) (fun hc => ?_)
  · refine have h := iteT hc h; tSR <| rA rfl rfl <| rN <| ATodo.ret <| ?_
    obtain rfl := Option.some.inj h
    exact ImpX.here ⟨_, .cons (.tmp _ _ rfl) .nil, rfl⟩
  · refine have h := iteF hc h; tK <| tS <| tSR <| rM rfl rfl <| ARun.qv (t_len rfl) rfl <| rM rfl rfl <| rN <| ATodo.block <| ATodo.loopI (fun x : Int => Q_CellsFault_b1 p0x0 x) (fun x σ' => σ' = ⟨55, [(0, .list 8 (p0x0.map Cell.av)), (10, .list 8 (p0x0.map Cell.av)), (11, I (p0x0.length : Int)), (12, I x)], []⟩) h ?_ ?_
    · exact ImpX.lq [] rfl rfl rfl
    · intro n2 z1 σ' J1 hmk h hJ1 hA1
      obtain rfl := hmk
      replace h : Q_CellsFault_b1 p0x0 n2 = some z1 := h
      unfold Q_CellsFault_b1 at h
      refine tSR <| ARun.qv (q_lss rfl rfl) rfl <| rN <| tS <| ATodo.cond_d rfl (fun hc => ?_) (fun hc => ?_)
      · refine have h := iteT hc h; tK <| tS <| ATodo.block <| tSR <| rM rfl rfl <| bndE h fun v3 e1 h => ARun.qv (t_index rfl rfl rfl e1 rfl rfl) rfl <| ARun.qv (q_load_rptr_agg rfl rfl rfl) rfl <| n_alloc rfl rfl rfl rfl fun b4 => rA rfl rfl <| n_store_ptr rfl rfl rfl rfl .p0 rfl rfl <| rN <| tS <| tSR <| rF rfl rfl rfl <| rF rfl rfl rfl <| rL rfl rfl .p0 rfl rfl <| bndE h fun v5 e2 h => r_callp rfl (Q_PropName_c e2) (CoL.refl _) rfl <| ARun.qv (q_not rfl) rfl <| rN <| ATodo.cond rfl (fun hc => ?_) (fun hc => ?_)
        · refine have h := iteT hc h; tSR <| rA rfl rfl <| rN <| ATodo.ret <| have h := outL h hA1; ?_
          obtain rfl := Option.some.inj h
          exact ImpX.here ⟨_, .cons (.tmp _ _ rfl) .nil, rfl⟩
        · refine have h := iteFb hc h; tK <| tS <| tS <| ATodo.regionM (id := 8) (A := [0, 1, 3, 7, 0, 16, 63, 127, 255, 0]) 10 mixed rfl (by kernel_rfl) (by kernel_rfl) <| AM.qv (n_field_ptr rfl rfl) rfl <| AM.qv (n_field_ptr rfl rfl) rfl <| AM.qv (n_load_ptr_part rfl rfl .p0 rfl rfl) rfl <| bndE h fun v6 e3 h => AM.callp rfl (Q_ValueFault_c e3) (CoL.refl _) rfl <| AM.qv (n_field_ptr rfl rfl) rfl <| AM.qv (n_load_ptr_part rfl rfl .p0 rfl rfl) rfl <| bndE h fun v7 e4 h => AM.callp rfl (Q_StampFault_c e4) (CoL.refl _) rfl <| AM.buildSliceL (xs := ([v6, v7] : List Int).map I) rfl rfl rfl rfl rfl rfl <| AM.qv (t_len rfl) rfl <| AM.qv (q_move rfl) rfl <| AM.nil <| rN <| ATodo.block <| ATodo.loopI (fun x : Int => Q_CellsFault_b2 p0x0 n2 v3 v6 v7 x) (fun x σ' => σ' = ⟨55, [(0, .list 8 (p0x0.map Cell.av)), (3, I n2), (4, .ptr b4 0), (10, .list 8 (p0x0.map Cell.av)), (11, I (p0x0.length : Int)), (12, I n2), (29, .list 1 ([v6, v7].map I)), (30, I ([v6, v7].length : Int)), (31, I x)], [(b4, .cells [.str v3.Prop_.Name, I v3.Prop_.Value.Kind, .bool v3.Prop_.Value.Flag, I v3.Prop_.Value.Number, .str v3.Prop_.Value.Words, I v3.Stamp.At, .str v3.Stamp.By, I v3.Stamp.No])]⟩) h ?_ ?_
          · exact ImpX.lq [0] rfl rfl rfl
          · intro n9 z2 σ' J2 hmk h hJ2 hA2
            obtain rfl := hmk
            replace h : Q_CellsFault_b2 p0x0 n2 v3 v6 v7 n9 = some z2 := h
            unfold Q_CellsFault_b2 at h
            refine tSR <| ARun.qv (q_lss rfl rfl) rfl <| rN <| tS <| ATodo.cond_d rfl (fun hc => ?_) (fun hc => ?_)
            · refine have h := iteT hc h; tK <| tS <| ATodo.block <| tSR <| bndE h fun v10 e5 h => ARun.qv (t_index rfl rfl rfl e5 rfl rfl) rfl <| ARun.qv (q_load_rptr rfl rfl rfl) rfl <| rA rfl rfl <| rN <| tSR <| rM rfl rfl <| ARun.qv (q_neq rfl rfl) rfl <| rN <| ATodo.cond_d rfl (fun hc => ?_) (fun hc => ?_)
              · refine have h := iteT hc h; tSR <| rM rfl rfl <| rA rfl rfl <| rN <| ATodo.ret <| have h := outL h hA2; have h := outL h hA1; ?_
                obtain rfl := Option.some.inj h
                exact ImpX.here ⟨_, .cons (.tmp _ _ rfl) .nil, rfl⟩
              · refine have h := iteF hc h; tK <| ATodo.blk <| tR <| ARun.qv (q_addw rfl rfl) rfl <| rM rfl rfl <| rN <| ATodo.stop <| ?_
                obtain rfl := Option.some.inj h
                exact hJ2 _ _ rfl <| ImpX.lq [0] rfl rfl rfl
            · refine have h := iteF hc h; ATodo.exit rfl <| have h := outL h hA2; ?_
              unfold Q_CellsFault_k2 at h
              refine tS <| ATodo.cut (fun σ' => ∃ (c11 : Bool), Q_CellsFault_j1 n2 c11 = some z1 ∧ σ' = ⟨55, [(0, .list 8 (p0x0.map Cell.av)), (10, .list 8 (p0x0.map Cell.av)), (11, I (p0x0.length : Int)), (12, I n2), (53, .bool c11)], []⟩) ?_ ?_
              · refine ATodo.regionM (id := 14) (A := [0, 1, 3, 7, 15, 31, 7, 7, 135, 455, 967, 1991, 4039, 8191, 16383]) 15 mixed rfl (by kernel_rfl) (by kernel_rfl) <| AM.qv (q_move rfl) rfl <| AM.qv (q_gtr rfl rfl) rfl <| AM.qv (q_move rfl) rfl <| AM.guard_dt rfl rfl rfl (fun hc => ?_) (fun hc => ?_)
                · exact have h := iteT hc h; AM.qv (n_field_ptr rfl rfl) rfl <| AM.guard_yes rfl rfl rfl <| AM.qv (n_field_ptr rfl rfl) rfl <| AM.guard_yes rfl rfl rfl <| AM.qv (q_load_ptr rfl rfl .p0 rfl) rfl <| AM.guard_yes rfl rfl rfl <| AM.qv (q_move rfl) rfl <| AM.guard_yes rfl rfl rfl <| AM.qv (q_move rfl) rfl <| AM.guard_yes rfl rfl rfl <| AM.qv (q_subw rfl rfl) rfl <| AM.guard_yes rfl rfl rfl <| bndE h fun v12 e6 h => AM.qv (t_index rfl rfl rfl e6 rfl rfl) rfl <| AM.guard_yes rfl rfl rfl <| AM.qv (n_field_rptr rfl rfl) rfl <| AM.guard_yes rfl rfl rfl <| AM.qv (n_field_rptr rfl rfl) rfl <| AM.guard_yes rfl rfl rfl <| AM.qv (q_load_rptr rfl rfl rfl) rfl <| AM.guard_yes rfl rfl rfl <| AM.qv (t_sleq rfl rfl) rfl <| AM.qv (q_pick_t rfl rfl) rfl <| AM.nil <| rN <| ATodo.stop <| ImpX.lq [] ⟨Op.bytesLess v3.Prop_.Name v12.Prop_.Name || v3.Prop_.Name == v12.Prop_.Name, h, rfl⟩ rfl rfl
                · exact have h := iteF hc h; AM.guard_no rfl rfl rfl rfl <| AM.guard_no rfl rfl rfl rfl <| AM.guard_no rfl rfl rfl rfl <| AM.guard_no rfl rfl rfl rfl <| AM.guard_no rfl rfl rfl rfl <| AM.guard_no rfl rfl rfl rfl <| AM.guard_no rfl rfl rfl rfl <| AM.guard_no rfl rfl rfl rfl <| AM.guard_no rfl rfl rfl rfl <| AM.guard_no rfl rfl rfl rfl <| AM.qv (q_pick_f rfl rfl) rfl <| AM.nil <| rN <| ATodo.stop <| ImpX.lq [] ⟨false, h, rfl⟩ rfl rfl
              · rintro σ' ⟨c11, h, rfl⟩
                unfold Q_CellsFault_j1 at h
                refine ATodo.cond rfl (fun hc => ?_) (fun hc => ?_)
                · refine have h := iteT hc h; tSR <| rA rfl rfl <| rN <| ATodo.ret <| have h := outL h hA1; ?_
                  obtain rfl := Option.some.inj h
                  exact ImpX.here ⟨_, .cons (.tmp _ _ rfl) .nil, rfl⟩
                · refine have h := iteFb hc h; tK <| ATodo.blk <| tR <| ARun.qv (q_addw rfl rfl) rfl <| rM rfl rfl <| rN <| ATodo.stop <| ?_
                  obtain rfl := Option.some.inj h
                  exact hJ1 _ _ rfl <| ImpX.lq [] rfl rfl rfl
      · refine have h := iteF hc h; ATodo.exit rfl <| have h := outL h hA1; tSR <| rA rfl rfl <| rN <| ATodo.ret <| ?_
        obtain rfl := Option.some.inj h
        exact ImpX.here ⟨_, .cons (.tmp _ _ rfl) .nil, rfl⟩

set_option maxHeartbeats 4000000 in
theorem Q_TwinFault_c {p0x0 : TwinS} {r : Int} (h : Q_TwinFault p0x0 = some r) : Pu Tryz.prog 32 [.agg [.list 8 (p0x0.Desired.map Cell.av), .list 8 (p0x0.Reported.map Cell.av)]] (I r) := by
  unfold Q_TwinFault at h
  refine ACall.bodyN Tryz.func32 rfl Tryz.ntmps32 Tryz.results32 rfl rfl ?_
  refine tSR <| n_box rfl rfl rfl rfl fun b1 => rA rfl rfl <| rN <| tS <| tSR <| rF rfl rfl rfl <| rL rfl rfl .p0 rfl rfl <| bndE h fun v2 e1 h => r_callp rfl (Q_CellsFault_c e1) (CoL.refl _) rfl <| rA rfl rfl <| rN <| tSR <| rM rfl rfl <| ARun.qv (q_neq rfl rfl) rfl <| rN <| ATodo.cond_d rfl (fun hc => ?_) (fun hc => ?_)
  · refine have h := iteT hc h; tSR <| rM rfl rfl <| rA rfl rfl <| rN <| ATodo.ret <| ?_
    obtain rfl := Option.some.inj h
    exact ImpX.here ⟨_, .cons (.tmp _ _ rfl) .nil, rfl⟩
  · refine have h := iteF hc h; tK <| tSR <| rF rfl rfl rfl <| rL rfl rfl .p0 rfl rfl <| bndE h fun v3 e2 h => r_callp rfl (Q_CellsFault_c e2) (CoL.refl _) rfl <| rA rfl rfl <| rN <| ATodo.ret <| ?_
    obtain rfl := Option.some.inj h
    exact ImpX.here ⟨_, .cons (.tmp _ _ rfl) .nil, rfl⟩

set_option maxHeartbeats 4000000 in
theorem Q_valued_c [GI : GTab] {p0x0 : Cell} {r : Bool} (h : Q_valued p0x0 = r) : Pu Tryz.prog 54 [.agg [.str p0x0.Prop_.Name, I p0x0.Prop_.Value.Kind, .bool p0x0.Prop_.Value.Flag, I p0x0.Prop_.Value.Number, .str p0x0.Prop_.Value.Words, I p0x0.Stamp.At, .str p0x0.Stamp.By, I p0x0.Stamp.No]] (.bool r) := by
  unfold Q_valued at h
  refine ACall.bodyN Tryz.func54 rfl Tryz.ntmps54 Tryz.results54 rfl rfl ?_
  refine tSR <| n_box rfl rfl rfl rfl fun b1 => rA rfl rfl <| rN <| tSR <| rF rfl rfl rfl <| rF rfl rfl rfl <| rF rfl rfl rfl <| rL rfl rfl .p0 rfl rfl <| ARun.qv (q_neq rfl rfl) rfl <| rA rfl rfl <| rN <| ATodo.ret <| ?_
  obtain rfl := h
  exact ImpX.here ⟨_, .cons (.tmp _ _ rfl) .nil, rfl⟩

set_option maxHeartbeats 4000000 in
theorem Q_sign_c [GI : GTab] {p0x0 : Int} {r : Int} (h : Q_sign p0x0 = r) : Pu Tryz.prog 120 [I p0x0] (I r) := by
  unfold Q_sign at h
  refine ACall.bodyN Tryz.func120 rfl Tryz.ntmps120 Tryz.results120 rfl rfl ?_
  refine tSR <| rA rfl rfl <| rN <| tS <| ATodo.block <| tSR <| rM rfl rfl <| ARun.qv (q_lss rfl rfl) rfl <| rA rfl rfl <| rN <| ATodo.cond_d rfl (fun hc => ?_) (fun hc => ?_)
  · refine have h := iteT hc h; tSR <| rA rfl rfl <| rN <| ATodo.ret <| ?_
    obtain rfl := h
    exact ImpX.here ⟨_, .cons (.tmp _ _ rfl) .nil, rfl⟩
  · refine have h := iteF hc h; tSR <| rM rfl rfl <| ARun.qv (q_gtr rfl rfl) rfl <| rA rfl rfl <| rN <| ATodo.cond_d rfl (fun hc => ?_) (fun hc => ?_)
    · refine have h := iteT hc h; tSR <| rA rfl rfl <| rN <| ATodo.ret <| ?_
      obtain rfl := h
      exact ImpX.here ⟨_, .cons (.tmp _ _ rfl) .nil, rfl⟩
    · refine have h := iteF hc h; tK <| ATodo.blk <| tSR <| rA rfl rfl <| rN <| ATodo.ret <| ?_
      obtain rfl := h
      exact ImpX.here ⟨_, .cons (.tmp _ _ rfl) .nil, rfl⟩

set_option maxHeartbeats 4000000 in
theorem Q_StampOrder_c [GI : GTab] {p0x0 : Stamp} {p1x0 : Stamp} {r : Int} (h : Q_StampOrder p0x0 p1x0 = r) : Pu Tryz.prog 70 [.agg [I p0x0.At, .str p0x0.By, I p0x0.No], .agg [I p1x0.At, .str p1x0.By, I p1x0.No]] (I r) := by
  unfold Q_StampOrder at h
  refine ACall.bodyN Tryz.func70 rfl Tryz.ntmps70 Tryz.results70 rfl rfl ?_
  refine tSR <| n_box rfl rfl rfl rfl fun b1 => n_box rfl rfl rfl rfl fun b2 => rA rfl rfl <| rN <| tS <| ATodo.block <| tSR <| rF rfl rfl rfl <| rL rfl rfl .p1 rfl rfl <| rF rfl rfl rfl <| rL rfl rfl .p0 rfl rfl <| ARun.qv (q_neq rfl rfl) rfl <| rA rfl rfl <| rN <| ATodo.cond_d rfl (fun hc => ?_) (fun hc => ?_)
  · refine have h := iteT hc h; tSR <| rF rfl rfl rfl <| rL rfl rfl .p1 rfl rfl <| rF rfl rfl rfl <| rL rfl rfl .p0 rfl rfl <| ARun.qv (q_subw rfl rfl) rfl <| r_callp rfl (Q_sign_c rfl) (CoL.refl _) rfl <| rA rfl rfl <| rN <| ATodo.ret <| ?_
    obtain rfl := h
    exact ImpX.here ⟨_, .cons (.tmp _ _ rfl) .nil, rfl⟩
  · refine have h := iteF hc h; tSR <| rF rfl rfl rfl <| rL rfl rfl .p1 rfl rfl <| rF rfl rfl rfl <| rL rfl rfl .p0 rfl rfl <| ARun.qv (q_sne rfl rfl) rfl <| rA rfl rfl <| rN <| ATodo.cond_d rfl (fun hc => ?_) (fun hc => ?_)
    · refine have h := iteT hc h; tSR <| rF rfl rfl rfl <| rL rfl rfl .p1 rfl rfl <| rF rfl rfl rfl <| rL rfl rfl .p0 rfl rfl <| r_callp rfl (strings_Compare_c rfl) (CoL.refl _) rfl <| rA rfl rfl <| rN <| ATodo.ret <| ?_
      obtain rfl := h
      exact ImpX.here ⟨_, .cons (.tmp _ _ rfl) .nil, rfl⟩
    · refine have h := iteF hc h; tK <| ATodo.blk <| tSR <| rF rfl rfl rfl <| rL rfl rfl .p1 rfl rfl <| rF rfl rfl rfl <| rL rfl rfl .p0 rfl rfl <| ARun.qv (q_subw rfl rfl) rfl <| r_callp rfl (Q_sign_c rfl) (CoL.refl _) rfl <| rA rfl rfl <| rN <| ATodo.ret <| ?_
      obtain rfl := h
      exact ImpX.here ⟨_, .cons (.tmp _ _ rfl) .nil, rfl⟩

set_option maxHeartbeats 4000000 in
theorem internal_stringslite_HasPrefix_c [GI : GTab] {p0x0 : Str} {p1x0 : Str} {r : Bool} (h : internal_stringslite_HasPrefix p0x0 p1x0 = some r) : Pu Tryz.prog 142 [.str p0x0, .str p1x0] (.bool r) := by
  unfold internal_stringslite_HasPrefix at h
  refine ACall.bodyN Tryz.func142 rfl Tryz.ntmps142 Tryz.results142 rfl rfl ?_
  refine tSR <| rA rfl rfl <| rN <| tS <| ATodo.cut (fun σ' => ∃ (c1 : Bool), internal_stringslite_HasPrefix_j1 c1 = some r ∧ σ' = ⟨18, [(4, .bool c1)], []⟩) ?_ ?_
  · refine tR <| rM rfl rfl <| ARun.qv (q_len_str rfl) rfl <| rM rfl rfl <| ARun.qv (q_len_str rfl) rfl <| ARun.qv (q_geq rfl rfl) rfl <| rM rfl rfl <| ARun.guard_dt rfl rfl rfl (fun hc => ?_) (fun hc => ?_)
    · exact have h := iteT hc h; rM rfl rfl <| rY rfl rfl rfl <| rM rfl rfl <| rY rfl rfl rfl <| ARun.qv (q_len_str rfl) rfl <| rY rfl rfl rfl <| bndE h fun l2 e1 h => ARun.qv (t_slice_str rfl .none (.some _ _ _ rfl) rfl rfl e1) rfl <| rY rfl rfl rfl <| rM rfl rfl <| rY rfl rfl rfl <| ARun.qv (q_seq rfl rfl) rfl <| rT rfl rfl rfl <| rA rfl rfl <| rN <| ATodo.stop <| ImpX.lq [] ⟨decide (l2 = p1x0), h, rfl⟩ rfl rfl
    · exact have h := iteF hc h; rG rfl rfl rfl rfl <| rG rfl rfl rfl rfl <| rG rfl rfl rfl rfl <| rG rfl rfl rfl rfl <| rG rfl rfl rfl rfl <| rE rfl rfl rfl <| rA rfl rfl <| rN <| ATodo.stop <| ImpX.lq [] ⟨false, h, rfl⟩ rfl rfl
  · rintro σ' ⟨c1, h, rfl⟩
    unfold internal_stringslite_HasPrefix_j1 at h
    refine ATodo.ret <| ?_
    obtain rfl := Option.some.inj h
    exact ImpX.here ⟨_, .cons (.tmp _ _ rfl) .nil, rfl⟩

set_option maxHeartbeats 4000000 in
theorem strings_HasPrefix_c [GI : GTab] {p0x0 : Str} {p1x0 : Str} {r : Bool} (h : strings_HasPrefix p0x0 p1x0 = some r) : Pu Tryz.prog 107 [.str p0x0, .str p1x0] (.bool r) := by
  unfold strings_HasPrefix at h
  refine ACall.bodyN Tryz.func107 rfl Tryz.ntmps107 Tryz.results107 rfl rfl ?_
  refine tSR <| rA rfl rfl <| rN <| tSR <| rM rfl rfl <| rM rfl rfl <| bndE h fun v1 e1 h => r_callp rfl (internal_stringslite_HasPrefix_c e1) (CoL.refl _) rfl <| rA rfl rfl <| rN <| ATodo.ret <| ?_
  obtain rfl := Option.some.inj h
  exact ImpX.here ⟨_, .cons (.tmp _ _ rfl) .nil, rfl⟩

set_option maxHeartbeats 4000000 in
theorem Q_above_c [GI : GTab] {p0x0 : Str} {p1x0 : Str} {r : Bool} (h : Q_above p0x0 p1x0 = some r) : Pu Tryz.prog 57 [.str p0x0, .str p1x0] (.bool r) := by
  unfold Q_above at h
  refine ACall.bodyN Tryz.func57 rfl Tryz.ntmps57 Tryz.results57 rfl rfl ?_
  refine tSR <| rA rfl rfl <| rN <| tSR <| rM rfl rfl <| rM rfl rfl <| bndE h fun q1 e1 h => ARun.qv (q_sadd e1 rfl rfl) rfl <| bndE h fun v2 e2 h => r_callp rfl (strings_HasPrefix_c e2) (CoL.refl _) rfl <| rA rfl rfl <| rN <| ATodo.ret <| ?_
  obtain rfl := Option.some.inj h
  exact ImpX.here ⟨_, .cons (.tmp _ _ rfl) .nil, rfl⟩

set_option maxHeartbeats 4000000 in
theorem Q_hides_c [GI : GTab] {p0x0 : Cell} {p1x0 : Cell} {r : Bool} (h : Q_hides p0x0 p1x0 = some r) : Pu Tryz.prog 106 [.agg [.str p0x0.Prop_.Name, I p0x0.Prop_.Value.Kind, .bool p0x0.Prop_.Value.Flag, I p0x0.Prop_.Value.Number, .str p0x0.Prop_.Value.Words, I p0x0.Stamp.At, .str p0x0.Stamp.By, I p0x0.Stamp.No], .agg [.str p1x0.Prop_.Name, I p1x0.Prop_.Value.Kind, .bool p1x0.Prop_.Value.Flag, I p1x0.Prop_.Value.Number, .str p1x0.Prop_.Value.Words, I p1x0.Stamp.At, .str p1x0.Stamp.By, I p1x0.Stamp.No]] (.bool r) := by
  unfold Q_hides at h
  refine ACall.bodyN Tryz.func106 rfl Tryz.ntmps106 Tryz.results106 rfl rfl ?_
  refine tSR <| n_box rfl rfl rfl rfl fun b1 => n_box rfl rfl rfl rfl fun b2 => rA rfl rfl <| rN <| tSR <| rF rfl rfl rfl <| ARun.qv (n_load_ptr_part rfl rfl .p1 rfl rfl) rfl <| rF rfl rfl rfl <| ARun.qv (n_load_ptr_part rfl rfl .p0 rfl rfl) rfl <| r_callp rfl (Q_StampOrder_c rfl) (CoL.refl _) rfl <| rA rfl rfl <| rN <| tS <| ATodo.block <| tSR <| rF rfl rfl rfl <| rF rfl rfl rfl <| rL rfl rfl .p1 rfl rfl <| rF rfl rfl rfl <| rF rfl rfl rfl <| rL rfl rfl .p0 rfl rfl <| bndE h fun v3 e1 h => r_callp rfl (Q_above_c e1) (CoL.refl _) rfl <| rA rfl rfl <| rN <| ATodo.cond rfl (fun hc => ?_) (fun hc => ?_)
  · refine have h := iteT hc h; tS <| ATodo.cut (fun σ' => ∃ (c4 : Bool), Q_hides_j1 c4 = some r ∧ σ' = ⟨47, [(4, .bool c4)], []⟩) ?_ ?_
    · refine tR <| rM rfl rfl <| ARun.qv (q_gtr rfl rfl) rfl <| rM rfl rfl <| ARun.guard_df rfl rfl rfl (fun hc => ?_) (fun hc => ?_)
      · rw [orFd hc] at h
        refine rM rfl rfl <| rY rfl rfl rfl <| ARun.qv (q_eql rfl rfl) rfl <| rY rfl rfl rfl <| rM rfl rfl <| ARun.guard_dt rfl rfl rfl (fun hc => ?_) (fun hc => ?_)
        · rw [andTd hc] at h
          refine ARun.qv (q_load_ptr_all rfl rfl .p1 rfl) rfl <| rY rfl rfl rfl <| r_callp rfl (Q_valued_c rfl) (CoL.refl _) rfl <| rY rfl rfl rfl <| rT rfl rfl rfl <| rY rfl rfl rfl <| rM rfl rfl <| ARun.guard rfl rfl rfl (fun hc => ?_) (fun hc => ?_)
          · rw [andTb hc] at h
            exact ARun.qv (q_load_ptr_all rfl rfl .p0 rfl) rfl <| rY rfl rfl rfl <| r_callp rfl (Q_valued_c rfl) (CoL.refl _) rfl <| rY rfl rfl rfl <| rT rfl rfl rfl <| rE rfl rfl rfl <| rA rfl rfl <| rN <| ATodo.stop <| ImpX.lq [] ⟨(Q_valued p1x0), h, rfl⟩ rfl rfl
          · rw [andFb hc] at h
            exact rG rfl rfl rfl rfl <| rY rfl rfl rfl <| rE rfl rfl rfl <| rE rfl rfl rfl <| rA rfl rfl <| rN <| ATodo.stop <| ImpX.lq [] ⟨false, h, rfl⟩ rfl rfl
        · rw [andFd hc] at h
          exact rG rfl rfl rfl rfl <| rY rfl rfl rfl <| rE rfl rfl rfl <| rY rfl rfl rfl <| rM rfl rfl <| rG rfl rfl rfl rfl <| rG rfl rfl rfl rfl <| rY rfl rfl rfl <| rE rfl rfl rfl <| rE rfl rfl rfl <| rA rfl rfl <| rN <| ATodo.stop <| ImpX.lq [] ⟨false, h, rfl⟩ rfl rfl
      · rw [orTd hc] at h
        exact rG rfl rfl rfl rfl <| rG rfl rfl rfl rfl <| ARun.guard_und rfl rfl rfl <| ARun.guard_und rfl rfl rfl <| rG rfl rfl rfl rfl <| rG rfl rfl rfl rfl <| ARun.guard_und rfl rfl rfl <| ARun.guard_und rfl rfl rfl <| rG rfl rfl rfl rfl <| rT rfl rfl rfl <| rA rfl rfl <| rN <| ATodo.stop <| ImpX.lq [] ⟨true, h, rfl⟩ rfl rfl
    · rintro σ' ⟨c4, h, rfl⟩
      unfold Q_hides_j1 at h
      refine ATodo.ret <| ?_
      obtain rfl := Option.some.inj h
      exact ImpX.here ⟨_, .cons (.tmp _ _ rfl) .nil, rfl⟩
  · refine have h := iteFb hc h; tSR <| rF rfl rfl rfl <| rF rfl rfl rfl <| rL rfl rfl .p0 rfl rfl <| rF rfl rfl rfl <| rF rfl rfl rfl <| rL rfl rfl .p1 rfl rfl <| bndE h fun v5 e2 h => r_callp rfl (Q_above_c e2) (CoL.refl _) rfl <| rA rfl rfl <| rN <| ATodo.cond rfl (fun hc => ?_) (fun hc => ?_)
    · refine have h := iteT hc h; tS <| ATodo.cut (fun σ' => ∃ (c6 : Bool), Q_hides_j2 c6 = some r ∧ σ' = ⟨47, [(4, .bool c6)], []⟩) ?_ ?_
      · refine tR <| rM rfl rfl <| ARun.qv (q_gtr rfl rfl) rfl <| rM rfl rfl <| ARun.guard_dt rfl rfl rfl (fun hc => ?_) (fun hc => ?_)
        · rw [andTd hc] at h
          exact ARun.qv (q_load_ptr_all rfl rfl .p0 rfl) rfl <| rY rfl rfl rfl <| r_callp rfl (Q_valued_c rfl) (CoL.refl _) rfl <| rT rfl rfl rfl <| rA rfl rfl <| rN <| ATodo.stop <| ImpX.lq [] ⟨(Q_valued p1x0), h, rfl⟩ rfl rfl
        · rw [andFd hc] at h
          exact rG rfl rfl rfl rfl <| rE rfl rfl rfl <| rA rfl rfl <| rN <| ATodo.stop <| ImpX.lq [] ⟨false, h, rfl⟩ rfl rfl
      · rintro σ' ⟨c6, h, rfl⟩
        unfold Q_hides_j2 at h
        refine ATodo.ret <| ?_
        obtain rfl := Option.some.inj h
        exact ImpX.here ⟨_, .cons (.tmp _ _ rfl) .nil, rfl⟩
    · refine have h := iteFb hc h; tK <| ATodo.blk <| tSR <| rA rfl rfl <| rN <| ATodo.ret <| ?_
      obtain rfl := Option.some.inj h
      exact ImpX.here ⟨_, .cons (.tmp _ _ rfl) .nil, rfl⟩

set_option maxHeartbeats 4000000 in
theorem Q_hidden_1x_c [GI : GTab] {p0x0 : Cell} {p1x0 : Cell} {r : Bool} (h : Q_hidden_1x p0x0 p1x0 = some r) : Pu Tryz.prog 105 [.agg [.str p0x0.Prop_.Name, I p0x0.Prop_.Value.Kind, .bool p0x0.Prop_.Value.Flag, I p0x0.Prop_.Value.Number, .str p0x0.Prop_.Value.Words, I p0x0.Stamp.At, .str p0x0.Stamp.By, I p0x0.Stamp.No], .rptr [.str p1x0.Prop_.Name, I p1x0.Prop_.Value.Kind, .bool p1x0.Prop_.Value.Flag, I p1x0.Prop_.Value.Number, .str p1x0.Prop_.Value.Words, I p1x0.Stamp.At, .str p1x0.Stamp.By, I p1x0.Stamp.No]] (.bool r) := by
  unfold Q_hidden_1x at h
  refine ACall.bodyN Tryz.func105 rfl Tryz.ntmps105 Tryz.results105 rfl rfl ?_
  refine tSR <| n_box rfl rfl rfl rfl fun b1 => rA rfl rfl <| rN <| tSR <| ARun.qv (q_load_ptr_all rfl rfl .p0 rfl) rfl <| ARun.qv (q_load_rptr_agg rfl rfl rfl) rfl <| bndE h fun v2 e1 h => r_callp rfl (Q_hides_c e1) (CoL.refl _) rfl <| rA rfl rfl <| rN <| ATodo.ret <| ?_
  obtain rfl := Option.some.inj h
  exact ImpX.here ⟨_, .cons (.tmp _ _ rfl) .nil, rfl⟩

set_option maxHeartbeats 4000000 in
theorem Q_hidden_c [GI : GTab] {p0x0 : List Cell} {p1x0 : Cell} {r : Bool} (h : Q_hidden p0x0 p1x0 = some r) : Pu Tryz.prog 55 [.list 8 (p0x0.map Cell.av), .agg [.str p1x0.Prop_.Name, I p1x0.Prop_.Value.Kind, .bool p1x0.Prop_.Value.Flag, I p1x0.Prop_.Value.Number, .str p1x0.Prop_.Value.Words, I p1x0.Stamp.At, .str p1x0.Stamp.By, I p1x0.Stamp.No]] (.bool r) := by
  unfold Q_hidden at h
  refine ACall.bodyN Tryz.func55 rfl Tryz.ntmps55 Tryz.results55 rfl rfl ?_
  refine tSR <| n_box rfl rfl rfl rfl fun b1 => rA rfl rfl <| rN <| tSR <| rM rfl rfl <| ARun.qv (q_makeFunc rfl) rfl <| bndE h fun v2 e1 h => r_callpB rfl (slices_ContainsFunc_Cell_Cell_c (fun e => Q_hidden_1x_c e) e1) (.cons (.co (.refl _)) (.cons (.funcL _ _ _ (.cons (.boxL _ _ _ .p0 (.cons (.co (.refl _)) (.cons (.co (.refl _)) (.cons (.co (.refl _)) (.cons (.co (.refl _)) (.cons (.co (.refl _)) (.cons (.co (.refl _)) (.cons (.co (.refl _)) (.cons (.co (.refl _)) .nil))))))))) .nil)) .nil)) rfl rfl <| rA rfl rfl <| rN <| ATodo.ret <| ?_
  obtain rfl := Option.some.inj h
  exact ImpX.here ⟨_, .cons (.tmp _ _ rfl) .nil, rfl⟩

set_option maxHeartbeats 4000000 in
theorem Q_VisibleOf_c [GI : GTab] {p0x0 : List Cell} {r : (List PropS)} (h : Q_VisibleOf p0x0 = some r) : ACall Tryz.prog 13 [.list 8 (p0x0.map Cell.av)] [] (T1 (fun d_0 => [(d_0, .arr 5 (r.map PropS.av))]) (fun d_0 => .sl 5 d_0 0 r.length)) := by
  unfold Q_VisibleOf at h
  refine ACall.lessH ?_
  refine ACall.bodyN Tryz.func13 rfl Tryz.ntmps13 Tryz.results13 rfl rfl ?_
  refine tSR <| rA rfl rfl <| rN <| tSR <| rA rfl rfl <| rN <| tS <| tSR <| rM rfl rfl <| ARun.qv (t_len rfl) rfl <| rM rfl rfl <| rN <| ATodo.block <| ATodo.loopI (fun x : (List PropS) × Int => Q_VisibleOf_b1 p0x0 x.1 x.2) (fun x σ' => ∃ (b4 : Bk), σ' = ⟨27, [(0, .list 8 (p0x0.map Cell.av)), (3, .sl 5 b4 0 x.1.length), (6, .list 8 (p0x0.map Cell.av)), (7, I (p0x0.length : Int)), (8, I x.2)], [(b4, .arr 5 (x.1.map PropS.av))]⟩) h ?_ ?_
  · exact ImpX.arr (s := 3) 5 rfl fun b7 => ImpX.lq [0] ⟨b7, rfl⟩ rfl rfl
  · intro x z1 σ' J1 hmk h hJ1 hA1
    obtain ⟨l5, n6⟩ := x
    obtain ⟨b4, rfl⟩ := hmk
    replace h : Q_VisibleOf_b1 p0x0 l5 n6 = some z1 := h
    unfold Q_VisibleOf_b1 at h
    refine tSR <| ARun.qv (q_lss rfl rfl) rfl <| rN <| tS <| ATodo.cond_d rfl (fun hc => ?_) (fun hc => ?_)
    · refine have h := iteT hc h; tK <| tS <| ATodo.block <| tSR <| bndE h fun v8 e1 h => ARun.qv (t_index rfl rfl rfl e1 rfl rfl) rfl <| ARun.qv (q_load_rptr_agg rfl rfl rfl) rfl <| n_alloc rfl rfl rfl rfl fun b9 => n_store_ptr rfl rfl rfl rfl .p0 rfl rfl <| rN <| tS <| ATodo.cut (fun σ' => ∃ (c10 : Bool), Q_VisibleOf_j1 l5 n6 v8 c10 = some z1 ∧ σ' = ⟨27, [(0, .list 8 (p0x0.map Cell.av)), (3, .sl 5 b4 0 l5.length), (5, .ptr b9 0), (6, .list 8 (p0x0.map Cell.av)), (7, I (p0x0.length : Int)), (8, I n6), (19, .bool c10)], [(b4, .arr 5 (l5.map PropS.av)), (b9, .cells [.str v8.Prop_.Name, I v8.Prop_.Value.Kind, .bool v8.Prop_.Value.Flag, I v8.Prop_.Value.Number, .str v8.Prop_.Value.Words, I v8.Stamp.At, .str v8.Stamp.By, I v8.Stamp.No])]⟩) ?_ ?_
      · refine tR <| ARun.qv (q_load_ptr_all rfl rfl .p0 rfl) rfl <| r_callp rfl (Q_valued_c rfl) (CoL.refl _) rfl <| rM rfl rfl <| ARun.guard rfl rfl rfl (fun hc => ?_) (fun hc => ?_)
        · exact have h := iteT hc h; rM rfl rfl <| rY rfl rfl rfl <| ARun.qv (q_load_ptr_all rfl rfl .p0 rfl) rfl <| rY rfl rfl rfl <| bndE h fun v11 e2 h => r_callp rfl (Q_hidden_c e2) (CoL.refl _) rfl <| rY rfl rfl rfl <| ARun.qv (q_not rfl) rfl <| rT rfl rfl rfl <| rN <| ATodo.stop <| ImpX.lq [1, 0] ⟨!v11, h, rfl⟩ rfl rfl
        · exact have h := iteFb hc h; rG rfl rfl rfl rfl <| rG rfl rfl rfl rfl <| rG rfl rfl rfl rfl <| rE rfl rfl rfl <| rN <| ATodo.stop <| ImpX.lq [1, 0] ⟨false, h, rfl⟩ rfl rfl
      · rintro σ' ⟨c10, h, rfl⟩
        unfold Q_VisibleOf_j1 at h
        refine ATodo.cut (fun σ' => ∃ (b12 : Bk) (l13 : List PropS), Q_VisibleOf_j2 n6 l13 = some z1 ∧ σ' = ⟨27, [(0, .list 8 (p0x0.map Cell.av)), (3, .sl 5 b12 0 l13.length), (6, .list 8 (p0x0.map Cell.av)), (7, I (p0x0.length : Int)), (8, I n6)], [(b12, .arr 5 (l13.map PropS.av))]⟩) ?_ ?_
        · refine ATodo.cond rfl (fun hc => ?_) (fun hc => ?_)
          · exact have h := iteT hc h; tR <| rM rfl rfl <| rF rfl rfl rfl <| ARun.qv (n_load_ptr_part rfl rfl .p1 rfl rfl) rfl <| n_buildSliceL (xs := ([v8.Prop_] : List PropS).map PropS.av) rfl rfl rfl rfl rfl rfl <| bndE h fun l14 e3 h => t_append (g := PropS.av) rfl rfl rfl rfl rfl rfl rfl rfl (.list _) e3 (fun _ => .p0) rfl fun b15 => rA rfl rfl <| rN <| ATodo.stop <| ImpX.lq [0] ⟨b15, l14, h, rfl⟩ rfl rfl
          · exact have h := iteFb hc h; tK <| ATodo.stop <| ImpX.lq [0] ⟨b4, l5, h, rfl⟩ rfl rfl
        · rintro σ' ⟨b12, l13, h, rfl⟩
          unfold Q_VisibleOf_j2 at h
          refine ATodo.blk <| tR <| ARun.qv (q_addw rfl rfl) rfl <| rM rfl rfl <| rN <| ATodo.stop <| ?_
          obtain rfl := Option.some.inj h
          exact hJ1 _ _ rfl <| ImpX.lq [0] ⟨b12, rfl⟩ rfl rfl
    · refine have h := iteF hc h; ATodo.exit rfl <| have h := outL h hA1; tSR <| rM rfl rfl <| rA rfl rfl <| rN <| ATodo.ret <| ?_
      obtain rfl := Option.some.inj h
      exact ImpX.here ⟨_, .cons (.tmp _ _ rfl) .nil, _, .cons .p0 .nil, ⟨b4, rfl, rfl⟩⟩

set_option maxHeartbeats 4000000 in
theorem Q_namesOf_c [GI : GTab] {p0x0 : List (List PropS)} {r : (List Str)} (h : Q_namesOf p0x0 = some r) : ACall Tryz.prog 82 [.list 1 (p0x0.map (encL 5 PropS.av))] [] (T1 (fun d_0 => [(d_0, .arr 1 (r.map AV.str))]) (fun d_0 => .sl 1 d_0 0 r.length)) := by
  unfold Q_namesOf at h
  refine ACall.lessH ?_
  refine ACall.bodyN Tryz.func82 rfl Tryz.ntmps82 Tryz.results82 rfl rfl ?_
  refine tSR <| rA rfl rfl <| rN <| tSR <| rA rfl rfl <| rN <| tS <| tSR <| rM rfl rfl <| ARun.qv (t_len rfl) rfl <| rM rfl rfl <| rN <| ATodo.block <| ATodo.loopI (fun x : (List Str) × Int => Q_namesOf_b1 p0x0 x.1 x.2) (fun x σ' => ∃ (b4 : Bk), σ' = ⟨31, [(3, .sl 1 b4 0 x.1.length), (8, .list 1 (p0x0.map (encL 5 PropS.av))), (9, I (p0x0.length : Int)), (10, I x.2)], [(b4, .arr 1 (x.1.map AV.str))]⟩) h ?_ ?_
  · exact ImpX.arr (s := 3) 1 rfl fun b7 => ImpX.lq [0] ⟨b7, rfl⟩ rfl rfl
  · intro x z1 σ' J1 hmk h hJ1 hA1
    obtain ⟨l5, n6⟩ := x
    obtain ⟨b4, rfl⟩ := hmk
    replace h : Q_namesOf_b1 p0x0 l5 n6 = some z1 := h
    unfold Q_namesOf_b1 at h
    refine tSR <| ARun.qv (q_lss rfl rfl) rfl <| rN <| tS <| ATodo.cond_d rfl (fun hc => ?_) (fun hc => ?_)
    · refine have h := iteT hc h; tK <| tS <| ATodo.block <| tSR <| bndE h fun v8 e1 h => ARun.qv (t_index rfl rfl rfl e1 rfl rfl) rfl <| ARun.qv (q_load_rptr rfl rfl rfl) rfl <| rA rfl rfl <| rN <| tSR <| rM rfl rfl <| ARun.qv (t_len rfl) rfl <| rM rfl rfl <| rN <| ATodo.block <| ATodo.loopI (fun x : (List Str) × Int => Q_namesOf_b2 n6 v8 x.1 x.2) (fun x σ' => ∃ (b12 : Bk), σ' = ⟨31, [(3, .sl 1 b12 0 x.1.length), (8, .list 1 (p0x0.map (encL 5 PropS.av))), (9, I (p0x0.length : Int)), (10, I n6), (14, .list 5 (v8.map PropS.av)), (15, I (v8.length : Int)), (16, I x.2)], [(b12, .arr 1 (x.1.map AV.str))]⟩) h ?_ ?_
      · exact ImpX.lq [0] ⟨b4, rfl⟩ rfl rfl
      · intro x z2 σ' J2 hmk h hJ2 hA2
        obtain ⟨l13, n14⟩ := x
        obtain ⟨b12, rfl⟩ := hmk
        replace h : Q_namesOf_b2 n6 v8 l13 n14 = some z2 := h
        unfold Q_namesOf_b2 at h
        refine tSR <| ARun.qv (q_lss rfl rfl) rfl <| rN <| tS <| ATodo.cond_d rfl (fun hc => ?_) (fun hc => ?_)
        · refine have h := iteT hc h; tK <| tS <| ATodo.block <| tSR <| bndE h fun v15 e2 h => ARun.qv (t_index rfl rfl rfl e2 rfl rfl) rfl <| ARun.qv (q_load_rptr_agg rfl rfl rfl) rfl <| n_alloc rfl rfl rfl rfl fun b16 => n_store_ptr rfl rfl rfl rfl .p0 rfl rfl <| rN <| tR <| rM rfl rfl <| rF rfl rfl rfl <| rL rfl rfl .p0 rfl rfl <| n_buildSliceL (xs := ([v15.Name] : List Str).map AV.str) rfl rfl rfl rfl rfl rfl <| bndE h fun l17 e3 h => t_append (g := AV.str) rfl rfl rfl rfl rfl rfl rfl rfl (.list _) e3 (fun _ => .p1) rfl fun b18 => rA rfl rfl <| rN <| ATodo.blk <| tR <| ARun.qv (q_addw rfl rfl) rfl <| rM rfl rfl <| rN <| ATodo.stop <| ?_
          obtain rfl := Option.some.inj h
          exact hJ2 _ _ rfl <| ImpX.lq [1] ⟨b18, rfl⟩ rfl rfl
        · refine have h := iteF hc h; ATodo.exit rfl <| have h := outL h hA2; ATodo.blk <| tR <| ARun.qv (q_addw rfl rfl) rfl <| rM rfl rfl <| rN <| ATodo.stop <| ?_
          obtain rfl := Option.some.inj h
          exact hJ1 _ _ rfl <| ImpX.lq [0] ⟨b12, rfl⟩ rfl rfl
    · refine have h := iteF hc h; ATodo.exit rfl <| have h := outL h hA1; ?_
      unfold Q_namesOf_k1 at h
      refine tSR <| rM rfl rfl <| bndE h fun v19 e4 h => t_call0 rfl (slices_Sort_string_string_c (lenOk_f e4)) (CoL.refl _) (.cons .p0 .nil) rfl rfl <| ARun.ghost <| ImpX.eqs (s := 3) (av' := .sl 1 b4 0 v19.length) rfl (congrArg (AV.sl 1 b4 0) (lenOk_l e4)) <| ImpX.here <| ARun.ghost <| ImpX.eqs (s := 27) (av' := .sl 1 b4 0 v19.length) rfl (congrArg (AV.sl 1 b4 0) (lenOk_l e4)) <| ImpX.here <| rN <| tSR <| rM rfl rfl <| bndE h fun v20 e5 h => t_call1 rfl (slices_Compact_string_string_c e5) (CoL.refl _) (.cons .p0 .nil) (fun _ => rfl) rfl fun b21 => rA rfl rfl <| rN <| ATodo.ret <| ?_
      obtain rfl := Option.some.inj h
      exact ImpX.here ⟨_, .cons (.tmp _ _ rfl) .nil, _, .cons .p0 .nil, ⟨b21, rfl, rfl⟩⟩

set_option maxHeartbeats 4000000 in
theorem Q_ValueOf_c [GI : GTab] {p0x0 : List PropS} {p1x0 : Str} {r : ValueS} (h : Q_ValueOf p0x0 p1x0 = some r) : Pu Tryz.prog 83 [.list 5 (p0x0.map PropS.av), .str p1x0] (.agg [I r.Kind, .bool r.Flag, I r.Number, .str r.Words]) := by
  unfold Q_ValueOf at h
  refine ACall.bodyN Tryz.func83 rfl Tryz.ntmps83 Tryz.results83 rfl rfl ?_
  refine tSR <| n_alloc rfl rfl rfl rfl fun b1 => rN <| tS <| tSR <| rM rfl rfl <| ARun.qv (t_len rfl) rfl <| rM rfl rfl <| rN <| ATodo.block <| ATodo.loopI (fun x : Int => Q_ValueOf_b1 p0x0 p1x0 x) (fun x σ' => σ' = ⟨21, [(1, .str p1x0), (4, .ptr b1 0), (7, .list 5 (p0x0.map PropS.av)), (8, I (p0x0.length : Int)), (9, I x)], [(b1, .cells [I (0 : Int), .bool false, I (0 : Int), .str []])]⟩) h ?_ ?_
  · exact ImpX.lq [0] rfl rfl rfl
  · intro n3 z1 σ' J1 hmk h hJ1 hA1
    obtain rfl := hmk
    replace h : Q_ValueOf_b1 p0x0 p1x0 n3 = some z1 := h
    unfold Q_ValueOf_b1 at h
    refine tSR <| ARun.qv (q_lss rfl rfl) rfl <| rN <| tS <| ATodo.cond_d rfl (fun hc => ?_) (fun hc => ?_)
    · refine have h := iteT hc h; tK <| tS <| ATodo.block <| tSR <| bndE h fun v4 e1 h => ARun.qv (t_index rfl rfl rfl e1 rfl rfl) rfl <| ARun.qv (q_load_rptr_agg rfl rfl rfl) rfl <| n_alloc rfl rfl rfl rfl fun b5 => n_store_ptr rfl rfl rfl rfl .p0 rfl rfl <| rN <| tSR <| rF rfl rfl rfl <| rL rfl rfl .p0 rfl rfl <| rM rfl rfl <| ARun.qv (q_seq rfl rfl) rfl <| rN <| ATodo.cond_d rfl (fun hc => ?_) (fun hc => ?_)
      · refine have h := iteT hc h; tSR <| rF rfl rfl rfl <| ARun.qv (n_load_ptr_part rfl rfl .p0 rfl rfl) rfl <| n_store_ptr rfl rfl rfl rfl .p1 rfl rfl <| rN <| ATodo.ret <| have h := outL h hA1; ?_
        obtain rfl := Option.some.inj h
        exact ImpX.here ⟨_, .cons (.all _ _ _ _ _ _ rfl .p1 TUnder.h TInfo.h rfl rfl) .nil, rfl⟩
      · refine have h := iteF hc h; tK <| ATodo.blk <| tR <| ARun.qv (q_addw rfl rfl) rfl <| rM rfl rfl <| rN <| ATodo.stop <| ?_
        obtain rfl := Option.some.inj h
        exact hJ1 _ _ rfl <| ImpX.lq [1] rfl rfl rfl
    · refine have h := iteF hc h; ATodo.exit rfl <| have h := outL h hA1; tSR <| ARun.qv (n_build rfl rfl rfl rfl rfl) rfl <| n_store_ptr rfl rfl rfl rfl .p0 rfl rfl <| rN <| ATodo.ret <| ?_
      obtain rfl := Option.some.inj h
      exact ImpX.here ⟨_, .cons (.all _ _ _ _ _ _ rfl .p0 TUnder.h TInfo.h rfl rfl) .nil, rfl⟩

set_option maxHeartbeats 4000000 in
theorem Q_OwedOf_c [GI : GTab] {p0x0 : TwinS} {r : (List Change)} (h : Q_OwedOf p0x0 = some r) : ACall Tryz.prog 33 [.agg [.list 8 (p0x0.Desired.map Cell.av), .list 8 (p0x0.Reported.map Cell.av)]] [] (T1 (fun d_0 => [(d_0, .arr 9 (r.map Change.av))]) (fun d_0 => .sl 9 d_0 0 r.length)) := by
  unfold Q_OwedOf at h
  refine ACall.lessH ?_
  refine ACall.bodyN Tryz.func33 rfl Tryz.ntmps33 Tryz.results33 rfl rfl ?_
  refine tSR <| n_box rfl rfl rfl rfl fun b1 => rA rfl rfl <| rN <| tS <| bndE h fun v2 e1 h => ATodo.regionT (id := 1) (A := [0, 1, 3, 0, 8, 31, 63, 127]) (H0 := []) (HH := fun β => [((β 2), .arr 5 (v2.map PropS.av)), (b1, .cells [.list 8 (p0x0.Desired.map Cell.av), .list 8 (p0x0.Reported.map Cell.av)])]) 5 mixed rfl (by kernel_rfl) (by kernel_rfl) [⟨some 2, none, [], fun b => (b, .arr 5 (v2.map PropS.av)), none⟩] [2] rfl (by kernel_rfl) rfl .nil (fun _ => rfl) <| AT.am 2 rfl rfl <| AM.qv (n_field_ptr rfl rfl) rfl <| AM.qv (q_load_ptr rfl rfl .p0 rfl) rfl <| AM.nil <| AT.runD (V := fun b => .sl 5 b 0 v2.length) (Ti := []) (Pi := fun b => [(b, .arr 5 (v2.map PropS.av))]) (fun _ => rfl) (fun _ => rfl) (fun _ _ => rfl) rfl (fun _ => rfl) rfl rfl rfl ?_ ?_
  · exact t_call1 rfl (Q_VisibleOf_c e1) (CoL.refl _) .nil (fun _ => rfl) rfl fun b3 => ARun.nil ⟨b3, _, rfl, rfl⟩
  refine AT.am 2 rfl rfl <| AM.qv (n_field_ptr rfl rfl) rfl <| AM.qv (q_load_ptr rfl rfl .p0 rfl) rfl <| AM.nil <| AT.nilN (fun _ => rfl) fun β => ?_
  generalize β 2 = b3
  clear β
  refine bndE h fun v4 e2 h => t_call1 rfl (Q_VisibleOf_c e2) (CoL.refl _) .nil (fun _ => rfl) rfl fun b5 => rA rfl rfl <| rA rfl rfl <| rN <| tSR <| t_makeMap rfl fun b6 => rA rfl rfl <| rN <| tS <| tSR <| rM rfl rfl <| ARun.qv (t_len_sl rfl) rfl <| rM rfl rfl <| rN <| ATodo.block <| ATodo.loopI (fun x : (List (Str × ValueS)) × Int => Q_OwedOf_b1 p0x0 v2 v4 x.1 x.2) (fun x σ' => σ' = ⟨131, [(1, .ptr b1 0), (3, .sl 5 b3 0 v2.length), (4, .sl 5 b5 0 v4.length), (5, .mref b6), (26, .sl 5 b5 0 v4.length), (27, I (v4.length : Int)), (28, I x.2)], [(b1, .cells [.list 8 (p0x0.Desired.map Cell.av), .list 8 (p0x0.Reported.map Cell.av)]), (b3, .arr 5 (v2.map PropS.av)), (b5, .arr 5 (v4.map PropS.av)), (b6, .mp (x.1.map (fun e => (AV.str e.1, ValueS.av e.2))))]⟩) h ?_ ?_
  · exact ImpX.lq [3, 2, 1, 0] rfl rfl rfl
  · intro x z1 σ' J1 hmk h hJ1 hA1
    obtain ⟨l9, n10⟩ := x
    obtain rfl := hmk
    replace h : Q_OwedOf_b1 p0x0 v2 v4 l9 n10 = some z1 := h
    unfold Q_OwedOf_b1 at h
    refine tSR <| ARun.qv (q_lss rfl rfl) rfl <| rN <| tS <| ATodo.cond_d rfl (fun hc => ?_) (fun hc => ?_)
    · refine have h := iteT hc h; tK <| tS <| ATodo.block <| tSR <| bndE h fun v11 e3 h => ARun.qv (t_index_sl rfl rfl rfl e3) rfl <| ARun.qv (t_load_aptr_agg (g := PropS.av) rfl rfl (.inl .p2) rfl e3 rfl) rfl <| n_alloc rfl rfl rfl rfl fun b12 => n_store_ptr rfl rfl rfl rfl .p0 rfl rfl <| rN <| tSR <| rM rfl rfl <| rF rfl rfl rfl <| rL rfl rfl .p0 rfl rfl <| rF rfl rfl rfl <| ARun.qv (n_load_ptr_part rfl rfl .p0 rfl rfl) rfl <| t_mapUpdate (gk := AV.str) (gv := ValueS.av) (M := l9) (key := v11.Name) (v := v11.Value) rfl rfl rfl rfl .p4 <| rN <| tS <| tSR <| rF rfl rfl rfl <| rL rfl rfl .p1 rfl rfl <| ARun.qv (t_len rfl) rfl <| rM rfl rfl <| rN <| ATodo.block <| ATodo.loopI (fun x : (List (Str × ValueS)) × Int => Q_OwedOf_b2 p0x0 v2 n10 v11 x.1 x.2) (fun x σ' => σ' = ⟨131, [(1, .ptr b1 0), (3, .sl 5 b3 0 v2.length), (4, .sl 5 b5 0 v4.length), (5, .mref b6), (7, .ptr b12 0), (26, .sl 5 b5 0 v4.length), (27, I (v4.length : Int)), (28, I n10), (38, .list 8 (p0x0.Desired.map Cell.av)), (39, I (p0x0.Desired.length : Int)), (40, I x.2)], [(b1, .cells [.list 8 (p0x0.Desired.map Cell.av), .list 8 (p0x0.Reported.map Cell.av)]), (b3, .arr 5 (v2.map PropS.av)), (b5, .arr 5 (v4.map PropS.av)), (b6, .mp (x.1.map (fun e => (AV.str e.1, ValueS.av e.2)))), (b12, .cells [.str v11.Name, I v11.Value.Kind, .bool v11.Value.Flag, I v11.Value.Number, .str v11.Value.Words])]⟩) h ?_ ?_
      · exact ImpX.lq [1, 1, 1, 1, 0] rfl rfl rfl
      · intro x z2 σ' J2 hmk h hJ2 hA2
        obtain ⟨l15, n16⟩ := x
        obtain rfl := hmk
        replace h : Q_OwedOf_b2 p0x0 v2 n10 v11 l15 n16 = some z2 := h
        unfold Q_OwedOf_b2 at h
        refine tSR <| ARun.qv (q_lss rfl rfl) rfl <| rN <| tS <| ATodo.cond_d rfl (fun hc => ?_) (fun hc => ?_)
        · refine have h := iteT hc h; tK <| tS <| ATodo.block <| tSR <| bndE h fun v17 e4 h => ARun.qv (t_index rfl rfl rfl e4 rfl rfl) rfl <| ARun.qv (q_load_rptr_agg rfl rfl rfl) rfl <| n_alloc rfl rfl rfl rfl fun b18 => n_store_ptr rfl rfl rfl rfl .p0 rfl rfl <| rN <| tSR <| rF rfl rfl rfl <| rF rfl rfl rfl <| rL rfl rfl .p0 rfl rfl <| rA rfl rfl <| rN <| tS <| ATodo.cut (fun σ' => ∃ (c19 : Bool), Q_OwedOf_j1 v11 l15 n16 c19 = some z2 ∧ σ' = ⟨131, [(1, .ptr b1 0), (3, .sl 5 b3 0 v2.length), (4, .sl 5 b5 0 v4.length), (5, .mref b6), (7, .ptr b12 0), (26, .sl 5 b5 0 v4.length), (27, I (v4.length : Int)), (28, I n10), (38, .list 8 (p0x0.Desired.map Cell.av)), (39, I (p0x0.Desired.length : Int)), (40, I n16), (68, .bool c19)], [(b1, .cells [.list 8 (p0x0.Desired.map Cell.av), .list 8 (p0x0.Reported.map Cell.av)]), (b3, .arr 5 (v2.map PropS.av)), (b5, .arr 5 (v4.map PropS.av)), (b6, .mp (l15.map (fun e => (AV.str e.1, ValueS.av e.2)))), (b12, .cells [.str v11.Name, I v11.Value.Kind, .bool v11.Value.Flag, I v11.Value.Number, .str v11.Value.Words])]⟩) ?_ ?_
          · refine tR <| ARun.qv (q_load_ptr_all rfl rfl .p0 rfl) rfl <| r_callp rfl (Q_valued_c rfl) (CoL.refl _) rfl <| ARun.qv (q_not rfl) rfl <| rM rfl rfl <| ARun.guard rfl rfl rfl (fun hc => ?_) (fun hc => ?_)
            · refine have h := iteT hc h; rF rfl rfl rfl <| rY rfl rfl rfl <| rL rfl rfl .p1 rfl rfl <| rY rfl rfl rfl <| ARun.qv (q_load_ptr_all rfl rfl .p0 rfl) rfl <| rY rfl rfl rfl <| bndE h fun v20 e5 h => r_callp rfl (Q_hidden_c e5) (CoL.refl _) rfl <| rY rfl rfl rfl <| ARun.qv (q_not rfl) rfl <| rT rfl rfl rfl <| rM rfl rfl <| ARun.guard rfl rfl rfl (fun hc => ?_) (fun hc => ?_)
              · refine have h := iteT hc h; rM rfl rfl <| rY rfl rfl rfl <| rF rfl rfl rfl <| rY rfl rfl rfl <| rL rfl rfl .p5 rfl rfl <| rY rfl rfl rfl <| ARun.qv (q_seq rfl rfl) rfl <| rY rfl rfl rfl <| rM rfl rfl <| ARun.guard_df rfl rfl rfl (fun hc => ?_) (fun hc => ?_)
                · exact have h := iteF hc h; rM rfl rfl <| rY rfl rfl rfl <| rF rfl rfl rfl <| rY rfl rfl rfl <| rL rfl rfl .p5 rfl rfl <| rY rfl rfl rfl <| bndE h fun v21 e6 h => r_callp rfl (Q_above_c e6) (CoL.refl _) rfl <| rY rfl rfl rfl <| rE rfl rfl rfl <| rT rfl rfl rfl <| rN <| ATodo.stop <| ImpX.lq [1, 1, 1, 1, 1] ⟨v21, h, rfl⟩ rfl rfl
                · exact have h := iteT hc h; rG rfl rfl rfl rfl <| rG rfl rfl rfl rfl <| rG rfl rfl rfl rfl <| rY rfl rfl rfl <| rT rfl rfl rfl <| rT rfl rfl rfl <| rN <| ATodo.stop <| ImpX.lq [1, 1, 1, 1, 1] ⟨true, h, rfl⟩ rfl rfl
              · exact have h := iteFb hc h; rG rfl rfl rfl rfl <| rG rfl rfl rfl rfl <| rG rfl rfl rfl rfl <| rG rfl rfl rfl rfl <| ARun.guard_und rfl rfl rfl <| ARun.guard_und rfl rfl rfl <| ARun.guard_und rfl rfl rfl <| ARun.guard_und rfl rfl rfl <| rG rfl rfl rfl rfl <| rE rfl rfl rfl <| rN <| ATodo.stop <| ImpX.lq [1, 1, 1, 1, 1] ⟨false, h, rfl⟩ rfl rfl
            · exact have h := iteFb hc h; rG rfl rfl rfl rfl <| rG rfl rfl rfl rfl <| rG rfl rfl rfl rfl <| rG rfl rfl rfl rfl <| rE rfl rfl rfl <| rM rfl rfl <| rG rfl rfl rfl rfl <| rG rfl rfl rfl rfl <| rG rfl rfl rfl rfl <| rG rfl rfl rfl rfl <| rG rfl rfl rfl rfl <| ARun.guard_und rfl rfl rfl <| ARun.guard_und rfl rfl rfl <| ARun.guard_und rfl rfl rfl <| ARun.guard_und rfl rfl rfl <| rG rfl rfl rfl rfl <| rE rfl rfl rfl <| rN <| ATodo.stop <| ImpX.lq [1, 1, 1, 1, 1] ⟨false, h, rfl⟩ rfl rfl
          · rintro σ' ⟨c19, h, rfl⟩
            unfold Q_OwedOf_j1 at h
            refine ATodo.cut (fun σ' => ∃ (l22 : List (Str × ValueS)), Q_OwedOf_j2 n16 l22 = some z2 ∧ σ' = ⟨131, [(1, .ptr b1 0), (3, .sl 5 b3 0 v2.length), (4, .sl 5 b5 0 v4.length), (5, .mref b6), (7, .ptr b12 0), (26, .sl 5 b5 0 v4.length), (27, I (v4.length : Int)), (28, I n10), (38, .list 8 (p0x0.Desired.map Cell.av)), (39, I (p0x0.Desired.length : Int)), (40, I n16)], [(b1, .cells [.list 8 (p0x0.Desired.map Cell.av), .list 8 (p0x0.Reported.map Cell.av)]), (b3, .arr 5 (v2.map PropS.av)), (b5, .arr 5 (v4.map PropS.av)), (b6, .mp (l22.map (fun e => (AV.str e.1, ValueS.av e.2)))), (b12, .cells [.str v11.Name, I v11.Value.Kind, .bool v11.Value.Flag, I v11.Value.Number, .str v11.Value.Words])]⟩) ?_ ?_
            · refine ATodo.cond rfl (fun hc => ?_) (fun hc => ?_)
              · exact have h := iteT hc h; tR <| rM rfl rfl <| rF rfl rfl rfl <| rL rfl rfl .p4 rfl rfl <| ARun.qv (n_build rfl rfl rfl rfl rfl) rfl <| t_mapUpdate (gk := AV.str) (gv := ValueS.av) (M := l15) (key := v11.Name) (v := (⟨(0 : Int), false, (0 : Int), []⟩ : ValueS)) rfl rfl rfl rfl .p3 <| rN <| ATodo.stop <| ImpX.lq [0, 0, 0, 0, 0] ⟨mset l15 v11.Name (⟨(0 : Int), false, (0 : Int), []⟩ : ValueS), h, rfl⟩ rfl rfl
              · exact have h := iteFb hc h; tK <| ATodo.stop <| ImpX.lq [0, 0, 0, 0, 0] ⟨l15, h, rfl⟩ rfl rfl
            · rintro σ' ⟨l22, h, rfl⟩
              unfold Q_OwedOf_j2 at h
              refine ATodo.blk <| tR <| ARun.qv (q_addw rfl rfl) rfl <| rM rfl rfl <| rN <| ATodo.stop <| ?_
              obtain rfl := Option.some.inj h
              exact hJ2 _ _ rfl <| ImpX.lq [0, 0, 0, 0, 0] rfl rfl rfl
        · refine have h := iteF hc h; ATodo.exit rfl <| have h := outL h hA2; tSR <| rM rfl rfl <| ARun.qv (t_len_sl rfl) rfl <| rM rfl rfl <| rN <| ATodo.block <| ATodo.loopI (fun x : (List (Str × ValueS)) × Int => Q_OwedOf_b3 v2 n10 v11 x.1 x.2) (fun x σ' => σ' = ⟨131, [(1, .ptr b1 0), (3, .sl 5 b3 0 v2.length), (4, .sl 5 b5 0 v4.length), (5, .mref b6), (7, .ptr b12 0), (26, .sl 5 b5 0 v4.length), (27, I (v4.length : Int)), (28, I n10), (74, .sl 5 b3 0 v2.length), (75, I (v2.length : Int)), (76, I x.2)], [(b1, .cells [.list 8 (p0x0.Desired.map Cell.av), .list 8 (p0x0.Reported.map Cell.av)]), (b3, .arr 5 (v2.map PropS.av)), (b5, .arr 5 (v4.map PropS.av)), (b6, .mp (x.1.map (fun e => (AV.str e.1, ValueS.av e.2)))), (b12, .cells [.str v11.Name, I v11.Value.Kind, .bool v11.Value.Flag, I v11.Value.Number, .str v11.Value.Words])]⟩) h ?_ ?_
          · exact ImpX.lq [0, 0, 0, 0, 0] rfl rfl rfl
          · intro x z3 σ' J3 hmk h hJ3 hA3
            obtain ⟨l25, n26⟩ := x
            obtain rfl := hmk
            replace h : Q_OwedOf_b3 v2 n10 v11 l25 n26 = some z3 := h
            unfold Q_OwedOf_b3 at h
            refine tSR <| ARun.qv (q_lss rfl rfl) rfl <| rN <| tS <| ATodo.cond_d rfl (fun hc => ?_) (fun hc => ?_)
            · refine have h := iteT hc h; tK <| tS <| ATodo.block <| tSR <| bndE h fun v27 e7 h => ARun.qv (t_index_sl rfl rfl rfl e7) rfl <| ARun.qv (t_load_aptr_agg (g := PropS.av) rfl rfl (.inl .p1) rfl e7 rfl) rfl <| n_alloc rfl rfl rfl rfl fun b28 => n_store_ptr rfl rfl rfl rfl .p0 rfl rfl <| rN <| tSR <| rF rfl rfl rfl <| rL rfl rfl .p5 rfl rfl <| rF rfl rfl rfl <| rL rfl rfl .p0 rfl rfl <| bndE h fun v29 e8 h => r_callp rfl (Q_above_c e8) (CoL.refl _) rfl <| rN <| ATodo.cut (fun σ' => ∃ (l30 : List (Str × ValueS)), Q_OwedOf_j3 n26 l30 = some z3 ∧ σ' = ⟨131, [(1, .ptr b1 0), (3, .sl 5 b3 0 v2.length), (4, .sl 5 b5 0 v4.length), (5, .mref b6), (7, .ptr b12 0), (26, .sl 5 b5 0 v4.length), (27, I (v4.length : Int)), (28, I n10), (74, .sl 5 b3 0 v2.length), (75, I (v2.length : Int)), (76, I n26)], [(b1, .cells [.list 8 (p0x0.Desired.map Cell.av), .list 8 (p0x0.Reported.map Cell.av)]), (b3, .arr 5 (v2.map PropS.av)), (b5, .arr 5 (v4.map PropS.av)), (b6, .mp (l30.map (fun e => (AV.str e.1, ValueS.av e.2)))), (b12, .cells [.str v11.Name, I v11.Value.Kind, .bool v11.Value.Flag, I v11.Value.Number, .str v11.Value.Words])]⟩) ?_ ?_
              · refine ATodo.cond rfl (fun hc => ?_) (fun hc => ?_)
                · exact have h := iteT hc h; tR <| rM rfl rfl <| rF rfl rfl rfl <| rL rfl rfl .p5 rfl rfl <| ARun.qv (n_build rfl rfl rfl rfl rfl) rfl <| t_mapUpdate (gk := AV.str) (gv := ValueS.av) (M := l25) (key := v11.Name) (v := (⟨(0 : Int), false, (0 : Int), []⟩ : ValueS)) rfl rfl rfl rfl .p4 <| rN <| ATodo.stop <| ImpX.lq [1, 1, 1, 1, 1] ⟨mset l25 v11.Name (⟨(0 : Int), false, (0 : Int), []⟩ : ValueS), h, rfl⟩ rfl rfl
                · exact have h := iteFb hc h; tK <| ATodo.stop <| ImpX.lq [1, 1, 1, 1, 1] ⟨l25, h, rfl⟩ rfl rfl
              · rintro σ' ⟨l30, h, rfl⟩
                unfold Q_OwedOf_j3 at h
                refine ATodo.blk <| tR <| ARun.qv (q_addw rfl rfl) rfl <| rM rfl rfl <| rN <| ATodo.stop <| ?_
                obtain rfl := Option.some.inj h
                exact hJ3 _ _ rfl <| ImpX.lq [0, 0, 0, 0, 0] rfl rfl rfl
            · refine have h := iteF hc h; ATodo.exit rfl <| have h := outL h hA3; ATodo.blk <| tR <| ARun.qv (q_addw rfl rfl) rfl <| rM rfl rfl <| rN <| ATodo.stop <| ?_
              obtain rfl := Option.some.inj h
              exact hJ1 _ _ rfl <| ImpX.lq [0, 0, 0, 0] rfl rfl rfl
    · refine have h := iteF hc h; ATodo.exit rfl <| have h := outL h hA1; tS <| tSR <| rM rfl rfl <| ARun.qv (t_len_sl rfl) rfl <| rM rfl rfl <| rN <| ATodo.block <| ATodo.loopI (fun x : (List (Str × ValueS)) × Int => Q_OwedOf_b4 v2 v4 x.1 x.2) (fun x σ' => σ' = ⟨131, [(3, .sl 5 b3 0 v2.length), (4, .sl 5 b5 0 v4.length), (5, .mref b6), (91, .sl 5 b3 0 v2.length), (92, I (v2.length : Int)), (93, I x.2)], [(b3, .arr 5 (v2.map PropS.av)), (b5, .arr 5 (v4.map PropS.av)), (b6, .mp (x.1.map (fun e => (AV.str e.1, ValueS.av e.2))))]⟩) h ?_ ?_
      · exact ImpX.lq [1, 1, 1] rfl rfl rfl
      · intro x z4 σ' J4 hmk h hJ4 hA4
        obtain ⟨l33, n34⟩ := x
        obtain rfl := hmk
        replace h : Q_OwedOf_b4 v2 v4 l33 n34 = some z4 := h
        unfold Q_OwedOf_b4 at h
        refine tSR <| ARun.qv (q_lss rfl rfl) rfl <| rN <| tS <| ATodo.cond_d rfl (fun hc => ?_) (fun hc => ?_)
        · refine have h := iteT hc h; tK <| tS <| ATodo.block <| tSR <| bndE h fun v35 e9 h => ARun.qv (t_index_sl rfl rfl rfl e9) rfl <| ARun.qv (t_load_aptr_agg (g := PropS.av) rfl rfl (.inl .p0) rfl e9 rfl) rfl <| n_alloc rfl rfl rfl rfl fun b36 => n_store_ptr rfl rfl rfl rfl .p0 rfl rfl <| rN <| tR <| rM rfl rfl <| rF rfl rfl rfl <| rL rfl rfl .p0 rfl rfl <| rF rfl rfl rfl <| ARun.qv (n_load_ptr_part rfl rfl .p0 rfl rfl) rfl <| t_mapUpdate (gk := AV.str) (gv := ValueS.av) (M := l33) (key := v35.Name) (v := v35.Value) rfl rfl rfl rfl .p3 <| rN <| ATodo.blk <| tR <| ARun.qv (q_addw rfl rfl) rfl <| rM rfl rfl <| rN <| ATodo.stop <| ?_
          obtain rfl := Option.some.inj h
          exact hJ4 _ _ rfl <| ImpX.lq [1, 1, 1] rfl rfl rfl
        · refine have h := iteF hc h; ATodo.exit rfl <| have h := outL h hA4; ?_
          unfold Q_OwedOf_k5 at h
          refine tSR <| rA rfl rfl <| rN <| tS <| tSR <| rM rfl rfl <| rM rfl rfl <| ARun.ghost <| ImpX.freeze .p0 <| ImpX.here <| ARun.ghost <| ImpX.freeze .p1 <| ImpX.here <| n_buildSliceL (xs := [.sl 5 b3 0 v2.length, .sl 5 b5 0 v4.length]) rfl rfl rfl rfl rfl rfl <| ARun.ghost <| ImpX.cox (s := 105) (av' := .list 1 (([v2, v4] : List (List PropS)).map (encL 5 PropS.av))) rfl (CoX.listL (.cons (.co (Co.froT .p0)) (.cons (.co (Co.froT .p1)) .nil)) rfl rfl) <| ImpX.here <| bndE h fun v37 e10 h => t_call1 rfl (Q_namesOf_c e10) (CoL.refl _) .nil (fun _ => rfl) rfl fun b38 => ARun.qv (t_len_sl rfl) rfl <| rM rfl rfl <| rN <| ATodo.block <| ATodo.loopI (fun x : (List Change) × Int => Q_OwedOf_b5 v4 l33 v37 x.1 x.2) (fun x σ' => ∃ (b42 : Bk), σ' = ⟨131, [(4, .sl 5 b5 0 v4.length), (5, .mref b6), (15, .sl 9 b42 0 x.1.length), (106, .sl 1 b38 0 v37.length), (107, I (v37.length : Int)), (108, I x.2)], [(b5, .fro 5 (v4.map PropS.av)), (b6, .mp (l33.map (fun e => (AV.str e.1, ValueS.av e.2)))), (b42, .arr 9 (x.1.map Change.av)), (b38, .arr 1 (v37.map AV.str))]⟩) h ?_ ?_
          · exact ImpX.arr (s := 15) 9 rfl fun b45 => ImpX.lq [3, 3, 0, 0] ⟨b45, rfl⟩ rfl rfl
          · intro x z5 σ' J5 hmk h hJ5 hA5
            obtain ⟨l43, n44⟩ := x
            obtain ⟨b42, rfl⟩ := hmk
            replace h : Q_OwedOf_b5 v4 l33 v37 l43 n44 = some z5 := h
            unfold Q_OwedOf_b5 at h
            refine tSR <| ARun.qv (q_lss rfl rfl) rfl <| rN <| tS <| ATodo.cond_d rfl (fun hc => ?_) (fun hc => ?_)
            · refine have h := iteT hc h; tK <| tS <| ATodo.block <| tSR <| bndE h fun v46 e11 h => ARun.qv (t_index_sl rfl rfl rfl e11) rfl <| ARun.qv (t_load_aptr (g := AV.str) rfl rfl (.inl .p3) e11 rfl) rfl <| rA rfl rfl <| rN <| tSR <| rM rfl rfl <| rM rfl rfl <| bndE h fun v47 e12 h => ARun.qv (t_lookup (gk := AV.str) (gv := ValueS.av) (M := l33) (key := v46) (Z := (⟨(0 : Int), false, (0 : Int), []⟩ : ValueS)) rfl rfl .p1 rfl rfl rfl e12 rfl) rfl <| n_alloc rfl rfl rfl rfl fun b48 => n_store_ptr rfl rfl rfl rfl .p0 rfl rfl <| rN <| tS <| ATodo.regionM (id := 31) (A := [0, 0, 0, 6, 15]) 5 mixed rfl (by kernel_rfl) (by kernel_rfl) <| AM.qv (q_load_ptr_all rfl rfl .p0 rfl) rfl <| AM.qv (q_move rfl) rfl <| AM.qv (q_move rfl) rfl <| bndE h fun v49 e13 h => AM.callp rfl (Q_ValueOf_c e13) (.cons (Co.froT .p1) (.cons (.refl _) .nil)) rfl <| AM.qv (t_tne (g := ValueS.av) (X := v47) (Y := v49) rfl rfl rfl rfl rfl) rfl <| AM.nil <| rN <| ATodo.cut (fun σ' => ∃ (b50 : Bk) (l51 : List Change), Q_OwedOf_j4 n44 l51 = some z5 ∧ σ' = ⟨131, [(4, .sl 5 b5 0 v4.length), (5, .mref b6), (15, .sl 9 b50 0 l51.length), (106, .sl 1 b38 0 v37.length), (107, I (v37.length : Int)), (108, I n44)], [(b5, .fro 5 (v4.map PropS.av)), (b6, .mp (l33.map (fun e => (AV.str e.1, ValueS.av e.2)))), (b50, .arr 9 (l51.map Change.av)), (b38, .arr 1 (v37.map AV.str))]⟩) ?_ ?_
              · refine ATodo.cond_d rfl (fun hc => ?_) (fun hc => ?_)
                · exact have h := iteT hc h; ATodo.regionM (id := 32) (A := [0, 0, 0, 0, 12, 0, 62, 126, 255, 511]) 8 mixed rfl (by kernel_rfl) (by kernel_rfl) <| AM.qv (q_move rfl) rfl <| AM.qv (q_move rfl) rfl <| AM.qv (q_move rfl) rfl <| AM.qv (q_move rfl) rfl <| bndE h fun v52 e14 h => AM.callp rfl (Q_ValueOf_c e14) (.cons (Co.froT .p1) (.cons (.refl _) .nil)) rfl <| AM.qv (q_load_ptr_all rfl rfl .p0 rfl) rfl <| AM.qv (n_build rfl rfl rfl rfl rfl) rfl <| AM.buildSliceL (xs := ([(⟨v46, v52, v47⟩ : Change)]).map Change.av) rfl rfl rfl rfl rfl rfl <| AM.nil <| bndE h fun l53 e15 h => t_append (g := Change.av) rfl rfl rfl rfl rfl rfl rfl rfl (.list _) e15 (fun _ => .p3) rfl fun b54 => rA rfl rfl <| rN <| ATodo.stop <| ImpX.lq [1, 1, 1, 1] ⟨b54, l53, h, rfl⟩ rfl rfl
                · exact have h := iteF hc h; tK <| ATodo.stop <| ImpX.lq [1, 1, 1, 1] ⟨b42, l43, h, rfl⟩ rfl rfl
              · rintro σ' ⟨b50, l51, h, rfl⟩
                unfold Q_OwedOf_j4 at h
                refine ATodo.blk <| tR <| ARun.qv (q_addw rfl rfl) rfl <| rM rfl rfl <| rN <| ATodo.stop <| ?_
                obtain rfl := Option.some.inj h
                exact hJ5 _ _ rfl <| ImpX.lq [0, 0, 0, 0] ⟨b50, rfl⟩ rfl rfl
            · refine have h := iteF hc h; ATodo.exit rfl <| have h := outL h hA5; tSR <| rM rfl rfl <| rA rfl rfl <| rN <| ATodo.ret <| ?_
              obtain rfl := Option.some.inj h
              exact ImpX.here ⟨_, .cons (.tmp _ _ rfl) .nil, _, .cons .p2 .nil, ⟨b42, rfl, rfl⟩⟩

set_option maxHeartbeats 4000000 in
theorem slices_Equal_Change_Change_c [GI : GTab] {p0x0 : List Change} {p1x0 : List Change} {r : Bool} (h : slices_Equal_Change_Change p0x0 p1x0 = some r) : Pu Tryz.prog 34 [.list 9 (p0x0.map Change.av), .list 9 (p1x0.map Change.av)] (.bool r) := by
  unfold slices_Equal_Change_Change at h
  refine ACall.bodyN Tryz.func34 rfl Tryz.ntmps34 Tryz.results34 rfl rfl ?_
  refine tSR <| rA rfl rfl <| rN <| tS <| tSR <| rM rfl rfl <| ARun.qv (t_len rfl) rfl <| rM rfl rfl <| ARun.qv (t_len rfl) rfl <| ARun.qv (q_neq rfl rfl) rfl <| rN <| ATodo.cond_d rfl (fun hc => ?_) (fun hc => ?_)
  · refine have h := iteT hc h; tSR <| rA rfl rfl <| rN <| ATodo.ret <| ?_
    obtain rfl := Option.some.inj h
    exact ImpX.here ⟨_, .cons (.tmp _ _ rfl) .nil, rfl⟩
  · refine have h := iteF hc h; tK <| tS <| tSR <| rM rfl rfl <| ARun.qv (t_len rfl) rfl <| rM rfl rfl <| rN <| ATodo.block <| ATodo.loopI (fun x : Int => slices_Equal_Change_Change_b1 p0x0 p1x0 x) (fun x σ' => σ' = ⟨26, [(0, .list 9 (p0x0.map Change.av)), (1, .list 9 (p1x0.map Change.av)), (12, I (p0x0.length : Int)), (13, I x)], []⟩) h ?_ ?_
    · exact ImpX.lq [] rfl rfl rfl
    · intro n2 z1 σ' J1 hmk h hJ1 hA1
      obtain rfl := hmk
      replace h : slices_Equal_Change_Change_b1 p0x0 p1x0 n2 = some z1 := h
      unfold slices_Equal_Change_Change_b1 at h
      refine tSR <| ARun.qv (q_lss rfl rfl) rfl <| rN <| tS <| ATodo.cond_d rfl (fun hc => ?_) (fun hc => ?_)
      · refine have h := iteT hc h; tK <| tS <| ATodo.block <| tSR <| rM rfl rfl <| rA rfl rfl <| rN <| tS <| ATodo.regionM (id := 6) (A := [0, 0, 3, 7, 0, 0, 48, 112, 255]) 9 mixed rfl (by kernel_rfl) (by kernel_rfl) <| AM.qv (q_move rfl) rfl <| AM.qv (q_move rfl) rfl <| bndE h fun v3 e1 h => AM.qv (t_index rfl rfl rfl e1 rfl rfl) rfl <| AM.qv (q_load_rptr_agg rfl rfl rfl) rfl <| AM.qv (q_move rfl) rfl <| AM.qv (q_move rfl) rfl <| bndE h fun v4 e2 h => AM.qv (t_index rfl rfl rfl e2 rfl rfl) rfl <| AM.qv (q_load_rptr_agg rfl rfl rfl) rfl <| AM.qv (t_tne (g := Change.av) (X := v3) (Y := v4) rfl rfl rfl rfl rfl) rfl <| AM.nil <| rN <| ATodo.cond_d rfl (fun hc => ?_) (fun hc => ?_)
        · refine have h := iteT hc h; tSR <| rA rfl rfl <| rN <| ATodo.ret <| have h := outL h hA1; ?_
          obtain rfl := Option.some.inj h
          exact ImpX.here ⟨_, .cons (.tmp _ _ rfl) .nil, rfl⟩
        · refine have h := iteF hc h; tK <| ATodo.blk <| tR <| ARun.qv (q_addw rfl rfl) rfl <| rM rfl rfl <| rN <| ATodo.stop <| ?_
          obtain rfl := Option.some.inj h
          exact hJ1 _ _ rfl <| ImpX.lq [] rfl rfl rfl
      · refine have h := iteF hc h; ATodo.exit rfl <| have h := outL h hA1; tSR <| rA rfl rfl <| rN <| ATodo.ret <| ?_
        obtain rfl := Option.some.inj h
        exact ImpX.here ⟨_, .cons (.tmp _ _ rfl) .nil, rfl⟩

set_option maxHeartbeats 4000000 in
theorem slices_Clone_Prop_Prop_c [GI : GTab] {p0x0 : List PropS} {r : (List PropS)} (h : slices_Clone_Prop_Prop p0x0 = some r) : ACall Tryz.prog 129 [.list 5 (p0x0.map PropS.av)] [] (T1 (fun d_0 => [(d_0, .arr 5 (r.map PropS.av))]) (fun d_0 => .sl 5 d_0 0 r.length)) := by
  unfold slices_Clone_Prop_Prop at h
  refine ACall.lessH ?_
  refine ACall.bodyN Tryz.func129 rfl Tryz.ntmps129 Tryz.results129 rfl rfl ?_
  refine ATodo.seq ?_
  refine ATodo.region ?_
  refine ARun.qv (q_assign rfl) rfl ?_
  refine ARun.nil ?_
  refine ATodo.seq ?_
  refine ATodo.seq ?_
  refine ATodo.region ?_
  refine ARun.qv (q_move rfl) rfl ?_
  refine r_eqnil rfl rfl rfl rfl (fun c hc => ?_)
  refine ARun.nil ?_
  refine ATodo.cond rfl (fun hT => ?_) (fun hF => ?_)
  · obtain rfl := app_nil_some h (List.map_eq_nil_iff.1 (hc hT))
    refine ATodo.seq ?_
    refine ATodo.region ?_
    refine ARun.qv (q_assign rfl) rfl ?_
    refine ARun.nil ?_
    refine ATodo.ret ?_
    refine ImpX.arr (s := 2) 5 rfl (fun b1 => ?_)
    exact ImpX.here ⟨_, .cons (.tmp _ _ rfl) .nil, _, .cons .here .nil, ⟨b1, rfl, rfl⟩⟩
  · refine ATodo.skip ?_
    refine ATodo.seq ?_
    refine ATodo.region ?_
    refine n_buildSlice (xs := ([] : List PropS).map PropS.av) rfl rfl rfl rfl rfl rfl (fun b2 => ?_)
    refine ARun.qv (q_move rfl) rfl ?_
    refine t_append (g := PropS.av) (Xs := []) rfl rfl rfl rfl rfl rfl rfl rfl (.list _) h (fun _ => .here) rfl (fun b3 => ?_)
    refine ARun.qv (q_assign rfl) rfl ?_
    refine ARun.nil ?_
    refine ATodo.ret ?_
    exact ImpX.here ⟨_, .cons (.tmp _ _ rfl) .nil, _, .cons .here .nil, ⟨b3, rfl, rfl⟩⟩

set_option maxHeartbeats 4000000 in
theorem propOrder_c [GI : GTab] {p0x0 : PropS} {p1x0 : PropS} {r : Int} (h : propOrder p0x0 p1x0 = r) : Pu Tryz.prog 131 [.agg [.str p0x0.Name, I p0x0.Value.Kind, .bool p0x0.Value.Flag, I p0x0.Value.Number, .str p0x0.Value.Words], .agg [.str p1x0.Name, I p1x0.Value.Kind, .bool p1x0.Value.Flag, I p1x0.Value.Number, .str p1x0.Value.Words]] (I r) := by
  unfold propOrder at h
  refine ACall.bodyN Tryz.func131 rfl Tryz.ntmps131 Tryz.results131 rfl rfl ?_
  refine tSR <| n_box rfl rfl rfl rfl fun b1 => n_box rfl rfl rfl rfl fun b2 => rA rfl rfl <| rN <| tSR <| rF rfl rfl rfl <| rL rfl rfl .p1 rfl rfl <| rF rfl rfl rfl <| rL rfl rfl .p0 rfl rfl <| r_callp rfl (strings_Compare_c rfl) (CoL.refl _) rfl <| rA rfl rfl <| rN <| ATodo.ret <| ?_
  obtain rfl := h
  exact ImpX.here ⟨_, .cons (.tmp _ _ rfl) .nil, rfl⟩

set_option maxHeartbeats 4000000 in
theorem slices_SortFunc_Prop_Prop_k : SortK Tryz.prog 130 5 := ⟨fun enc hk h1 cf hO g cb blk off cap d w eg hc hH hb hs => AnyQ.slices_SortFunc_eq Tryz.sortF130 5 Tryz.isAgg44 Tryz.sizeOf44 enc hk h1 cf hO g cb blk off cap d w eg hc hH hb hs, fun p cap fv w => AnyF.slices_SortFunc_none Tryz.sortF130 p cap fv w⟩
theorem slices_SortFunc_Prop_Prop_c [GI : GTab] {b_0 : Bk} {p0x0 : List PropS} {fnb : PropS → PropS → Option Int} {fnb_F : FuncId} [IsFn Tryz.prog fnb_F] {fnb_C : List AV} (fnb_h : ∀ {y0 y1 : _} {u : Int}, fnb y0 y1 = some u → @Pu strongT Tryz.prog fnb_F (PropS.av y0 :: PropS.av y1 :: fnb_C) (I u)) {r : (List PropS)} (h : slices_SortFunc_Prop_Prop p0x0 fnb = some r) : ACall Tryz.prog 130 [.sl 5 b_0 0 p0x0.length, .func (.func fnb_F) fnb_C] [(b_0, .arr 5 (p0x0.map PropS.av))] (T0 [(b_0, .arr 5 (r.map PropS.av))] (.tup [])) :=
  sort_acall (fn := fnb) slices_SortFunc_Prop_Prop_k rfl @fnb_h (fun _ => rfl) h

set_option maxHeartbeats 4000000 in
theorem Q_PropsFault_1x_c [GI : GTab] {p0x0 : PropS} {p1x0 : PropS} {r : Bool} (h : Q_PropsFault_1x p0x0 p1x0 = some r) : Pu Tryz.prog 164 [.agg [.str p0x0.Name, I p0x0.Value.Kind, .bool p0x0.Value.Flag, I p0x0.Value.Number, .str p0x0.Value.Words], .rptr [.str p1x0.Name, I p1x0.Value.Kind, .bool p1x0.Value.Flag, I p1x0.Value.Number, .str p1x0.Value.Words]] (.bool r) := by
  unfold Q_PropsFault_1x at h
  refine ACall.bodyN Tryz.func164 rfl Tryz.ntmps164 Tryz.results164 rfl rfl ?_
  refine tSR <| n_box rfl rfl rfl rfl fun b1 => rA rfl rfl <| rN <| tSR <| rF rfl rfl rfl <| rL rfl rfl .p0 rfl rfl <| ARun.qv (n_field_rptr rfl rfl) rfl <| ARun.qv (q_load_rptr rfl rfl rfl) rfl <| bndE h fun v2 e1 h => r_callp rfl (Q_above_c e1) (CoL.refl _) rfl <| rA rfl rfl <| rN <| ATodo.ret <| ?_
  obtain rfl := Option.some.inj h
  exact ImpX.here ⟨_, .cons (.tmp _ _ rfl) .nil, rfl⟩

set_option maxHeartbeats 4000000 in
theorem Q_PropsFault_c {p0x0 : List PropS} {r : Int} (h : Q_PropsFault p0x0 = some r) : Pu Tryz.prog 132 [.list 5 (p0x0.map PropS.av)] (I r) := by
  unfold Q_PropsFault at h
  refine ACall.bodyN Tryz.func132 rfl Tryz.ntmps132 Tryz.results132 rfl rfl ?_
  refine tSR <| rA rfl rfl <| rN <| tS <| tSR <| rM rfl rfl <| ARun.qv (t_len rfl) rfl <| ARun.qv (q_gtr rfl rfl) rfl <| rN <| ATodo.cond_d rfl (fun hc => ?_) (fun hc => ?_)
  · refine have h := iteT hc h; tSR <| rA rfl rfl <| rN <| ATodo.ret <| ?_
    obtain rfl := Option.some.inj h
    exact ImpX.here ⟨_, .cons (.tmp _ _ rfl) .nil, rfl⟩
  · refine have h := iteF hc h; tK <| tS <| tSR <| rM rfl rfl <| ARun.qv (t_len rfl) rfl <| rM rfl rfl <| rN <| ATodo.block <| ATodo.loopI (fun x : Int => Q_PropsFault_b1 p0x0 x) (fun x σ' => σ' = ⟨58, [(0, .list 5 (p0x0.map PropS.av)), (11, .list 5 (p0x0.map PropS.av)), (12, I (p0x0.length : Int)), (13, I x)], []⟩) h ?_ ?_
    · exact ImpX.lq [] rfl rfl rfl
    · intro n2 z1 σ' J1 hmk h hJ1 hA1
      obtain rfl := hmk
      replace h : Q_PropsFault_b1 p0x0 n2 = some z1 := h
      unfold Q_PropsFault_b1 at h
      refine tSR <| ARun.qv (q_lss rfl rfl) rfl <| rN <| tS <| ATodo.cond_d rfl (fun hc => ?_) (fun hc => ?_)
      · refine have h := iteT hc h; tK <| tS <| ATodo.block <| tSR <| rM rfl rfl <| bndE h fun v3 e1 h => ARun.qv (t_index rfl rfl rfl e1 rfl rfl) rfl <| ARun.qv (q_load_rptr_agg rfl rfl rfl) rfl <| n_alloc rfl rfl rfl rfl fun b4 => rA rfl rfl <| n_store_ptr rfl rfl rfl rfl .p0 rfl rfl <| rN <| tS <| tSR <| rF rfl rfl rfl <| rL rfl rfl .p0 rfl rfl <| bndE h fun v5 e2 h => r_callp rfl (Q_PropName_c e2) (CoL.refl _) rfl <| ARun.qv (q_not rfl) rfl <| rN <| ATodo.cond rfl (fun hc => ?_) (fun hc => ?_)
        · refine have h := iteT hc h; tSR <| rA rfl rfl <| rN <| ATodo.ret <| have h := outL h hA1; ?_
          obtain rfl := Option.some.inj h
          exact ImpX.here ⟨_, .cons (.tmp _ _ rfl) .nil, rfl⟩
        · refine have h := iteFb hc h; tK <| tS <| tSR <| rF rfl rfl rfl <| ARun.qv (n_load_ptr_part rfl rfl .p0 rfl rfl) rfl <| bndE h fun v6 e3 h => r_callp rfl (Q_ValueFault_c e3) (CoL.refl _) rfl <| rA rfl rfl <| rN <| tSR <| rM rfl rfl <| ARun.qv (q_neq rfl rfl) rfl <| rN <| ATodo.cond_d rfl (fun hc => ?_) (fun hc => ?_)
          · refine have h := iteT hc h; tSR <| rM rfl rfl <| rA rfl rfl <| rN <| ATodo.ret <| have h := outL h hA1; ?_
            obtain rfl := Option.some.inj h
            exact ImpX.here ⟨_, .cons (.tmp _ _ rfl) .nil, rfl⟩
          · refine have h := iteF hc h; tK <| ATodo.block <| tSR <| rF rfl rfl rfl <| rF rfl rfl rfl <| rL rfl rfl .p0 rfl rfl <| ARun.qv (q_eql rfl rfl) rfl <| rA rfl rfl <| rN <| ATodo.cond_d rfl (fun hc => ?_) (fun hc => ?_)
            · refine have h := iteT hc h; tSR <| rA rfl rfl <| rN <| ATodo.ret <| have h := outL h hA1; ?_
              obtain rfl := Option.some.inj h
              exact ImpX.here ⟨_, .cons (.tmp _ _ rfl) .nil, rfl⟩
            · refine have h := iteF hc h; tS <| ATodo.cut (fun σ' => ∃ (c7 : Bool), Q_PropsFault_j1 n2 c7 = some z1 ∧ σ' = ⟨58, [(0, .list 5 (p0x0.map PropS.av)), (11, .list 5 (p0x0.map PropS.av)), (12, I (p0x0.length : Int)), (13, I n2), (33, .bool c7)], []⟩) ?_ ?_
              · refine ATodo.regionM (id := 13) (A := [0, 1, 3, 7, 15, 7, 7, 71, 231, 487, 999, 2047, 4095, 8191]) 14 mixed rfl (by kernel_rfl) (by kernel_rfl) <| AM.qv (q_move rfl) rfl <| AM.qv (q_gtr rfl rfl) rfl <| AM.qv (q_move rfl) rfl <| AM.guard_dt rfl rfl rfl (fun hc => ?_) (fun hc => ?_)
                · exact have h := iteT hc h; AM.qv (n_field_ptr rfl rfl) rfl <| AM.guard_yes rfl rfl rfl <| AM.qv (q_load_ptr rfl rfl .p0 rfl) rfl <| AM.guard_yes rfl rfl rfl <| AM.qv (q_move rfl) rfl <| AM.guard_yes rfl rfl rfl <| AM.qv (q_move rfl) rfl <| AM.guard_yes rfl rfl rfl <| AM.qv (q_subw rfl rfl) rfl <| AM.guard_yes rfl rfl rfl <| bndE h fun v8 e4 h => AM.qv (t_index rfl rfl rfl e4 rfl rfl) rfl <| AM.guard_yes rfl rfl rfl <| AM.qv (n_field_rptr rfl rfl) rfl <| AM.guard_yes rfl rfl rfl <| AM.qv (q_load_rptr rfl rfl rfl) rfl <| AM.guard_yes rfl rfl rfl <| AM.qv (t_sleq rfl rfl) rfl <| AM.qv (q_pick_t rfl rfl) rfl <| AM.qv (q_assign rfl) rfl <| AM.nil <| rN <| ATodo.stop <| ImpX.lq [] ⟨Op.bytesLess v3.Name v8.Name || v3.Name == v8.Name, h, rfl⟩ rfl rfl
                · exact have h := iteF hc h; AM.guard_no rfl rfl rfl rfl <| AM.guard_no rfl rfl rfl rfl <| AM.guard_no rfl rfl rfl rfl <| AM.guard_no rfl rfl rfl rfl <| AM.guard_no rfl rfl rfl rfl <| AM.guard_no rfl rfl rfl rfl <| AM.guard_no rfl rfl rfl rfl <| AM.guard_no rfl rfl rfl rfl <| AM.qv (q_pick_f rfl rfl) rfl <| AM.qv (q_assign rfl) rfl <| AM.nil <| rN <| ATodo.stop <| ImpX.lq [] ⟨false, h, rfl⟩ rfl rfl
              · rintro σ' ⟨c7, h, rfl⟩
                unfold Q_PropsFault_j1 at h
                refine ATodo.cond rfl (fun hc => ?_) (fun hc => ?_)
                · refine have h := iteT hc h; tSR <| rA rfl rfl <| rN <| ATodo.ret <| have h := outL h hA1; ?_
                  obtain rfl := Option.some.inj h
                  exact ImpX.here ⟨_, .cons (.tmp _ _ rfl) .nil, rfl⟩
                · refine have h := iteFb hc h; tK <| ATodo.blk <| ATodo.blk <| tR <| ARun.qv (q_addw rfl rfl) rfl <| rM rfl rfl <| rN <| ATodo.stop <| ?_
                  obtain rfl := Option.some.inj h
                  exact hJ1 _ _ rfl <| ImpX.lq [] rfl rfl rfl
      · refine have h := iteF hc h; ATodo.exit rfl <| have h := outL h hA1; tS <| tSR <| rM rfl rfl <| ARun.qv (t_len rfl) rfl <| rM rfl rfl <| rN <| ATodo.block <| ATodo.loopI (fun x : Int => Q_PropsFault_b2 p0x0 x) (fun x σ' => σ' = ⟨58, [(0, .list 5 (p0x0.map PropS.av)), (48, .list 5 (p0x0.map PropS.av)), (49, I (p0x0.length : Int)), (50, I x)], []⟩) h ?_ ?_
        · exact ImpX.lq [] rfl rfl rfl
        · intro n10 z2 σ' J2 hmk h hJ2 hA2
          obtain rfl := hmk
          replace h : Q_PropsFault_b2 p0x0 n10 = some z2 := h
          unfold Q_PropsFault_b2 at h
          refine tSR <| ARun.qv (q_lss rfl rfl) rfl <| rN <| tS <| ATodo.cond_d rfl (fun hc => ?_) (fun hc => ?_)
          · refine have h := iteT hc h; tK <| tS <| ATodo.block <| tSR <| bndE h fun v11 e5 h => ARun.qv (t_index rfl rfl rfl e5 rfl rfl) rfl <| ARun.qv (q_load_rptr_agg rfl rfl rfl) rfl <| n_alloc rfl rfl rfl rfl fun b12 => n_store_ptr rfl rfl rfl rfl .p0 rfl rfl <| rN <| tSR <| rM rfl rfl <| ARun.qv (q_makeFunc rfl) rfl <| bndE h fun v13 e6 h => r_callpB rfl (slices_ContainsFunc_Prop_Prop_c (fun e => Q_PropsFault_1x_c e) e6) (.cons (.co (.refl _)) (.cons (.funcL _ _ _ (.cons (.boxL _ _ _ .p0 (.cons (.co (.refl _)) (.cons (.co (.refl _)) (.cons (.co (.refl _)) (.cons (.co (.refl _)) (.cons (.co (.refl _)) .nil)))))) .nil)) .nil)) rfl rfl <| rN <| ATodo.cond rfl (fun hc => ?_) (fun hc => ?_)
            · refine have h := iteT hc h; tSR <| rA rfl rfl <| rN <| ATodo.ret <| have h := outL h hA2; ?_
              obtain rfl := Option.some.inj h
              exact ImpX.here ⟨_, .cons (.tmp _ _ rfl) .nil, rfl⟩
            · refine have h := iteFb hc h; tK <| ATodo.blk <| tR <| ARun.qv (q_addw rfl rfl) rfl <| rM rfl rfl <| rN <| ATodo.stop <| ?_
              obtain rfl := Option.some.inj h
              exact hJ2 _ _ rfl <| ImpX.lq [] rfl rfl rfl
          · refine have h := iteF hc h; ATodo.exit rfl <| have h := outL h hA2; tSR <| rA rfl rfl <| rN <| ATodo.ret <| ?_
            obtain rfl := Option.some.inj h
            exact ImpX.here ⟨_, .cons (.tmp _ _ rfl) .nil, rfl⟩

set_option maxHeartbeats 4000000 in
theorem Stream_RightProps_c {b_0 : Bk} {p0x0 : Fleetmake_Stream} {r : (List PropS) × Fleetmake_Stream} (h : Stream_RightProps p0x0 = some r) : ACall Tryz.prog 85 [.ptr b_0 0] [(b_0, .cells [.list 1 (p0x0.L.map I), I p0x0.at_])] (T1 (fun d_0 => [(b_0, .cells [.list 1 (r.2.L.map I), I r.2.at_]), (d_0, .arr 5 (r.1.map PropS.av))]) (fun d_0 => .sl 5 d_0 0 r.1.length)) := by
  unfold Stream_RightProps at h
  refine ACall.lessH ?_
  refine ACall.bodyN Tryz.func85 rfl Tryz.ntmps85 Tryz.results85 rfl rfl ?_
  refine tSR <| rA rfl rfl <| rN <| tSR <| rA rfl rfl <| rN <| tS <| tSR <| rM rfl rfl <| bndE h fun v1 e1 h => t_call0 rfl (Stream_Range_c e1) (CoL.refl _) (.cons .p0 .nil) rfl rfl <| rM rfl rfl <| rN <| ATodo.block <| ATodo.loopI (fun x : (List Int) × Int × (List PropS) × Int => Stream_RightProps_b1 v1 x.1 x.2.1 x.2.2.1 x.2.2.2) (fun x σ' => ∃ (b9 : Bk), σ' = ⟨27, [(0, .ptr b_0 0), (3, .sl 5 b9 0 x.2.2.1.length), (6, I v1.1), (7, I x.2.2.2)], [(b_0, .cells [.list 1 (x.1.map I), I x.2.1]), (b9, .arr 5 (x.2.2.1.map PropS.av))]⟩) h ?_ ?_
  · exact ImpX.arr (s := 3) 5 rfl fun b12 => ImpX.lq [1, 0] ⟨b12, rfl⟩ rfl rfl
  · intro x z1 σ' J1 hmk h hJ1 hA1
    obtain ⟨l7, n8, l10, n11⟩ := x
    obtain ⟨b9, rfl⟩ := hmk
    replace h : Stream_RightProps_b1 v1 l7 n8 l10 n11 = some z1 := h
    unfold Stream_RightProps_b1 at h
    refine tSR <| ARun.qv (q_lss rfl rfl) rfl <| rN <| tS <| ATodo.cond_d rfl (fun hc => ?_) (fun hc => ?_)
    · refine have h := iteT hc h; tK <| tS <| ATodo.block <| tSR <| rM rfl rfl <| bndE h fun v13 e2 h => t_callL1 rfl (slices_Clone_Prop_Prop_c e2) .nil (.cons (CoB.arrT .p1) .nil) (fun _ => rfl) (fun _ => rfl) (fun _ => (.cons (NoS.arrT (fun _ => rfl)) .nil)) rfl fun b14 => rM rfl rfl <| n_buildSliceL (xs := ([([97] : Str), ([97, 46, 120] : Str), ([97, 46, 121] : Str), ([97, 46, 120, 46, 112] : Str), ([98] : Str), ([98, 46, 122] : Str), ([97, 98] : Str)]).map AV.str) rfl rfl rfl rfl rfl rfl <| bndE h fun v15 e3 h => t_call0 rfl (Stream_Some_c e3) (CoL.refl _) (.cons .p1 .nil) rfl rfl <| rM rfl rfl <| bndE h fun v16 e4 h => t_call0 rfl (Stream_RightValue_c e4) (CoL.refl _) (.cons .p0 .nil) rfl rfl <| ARun.qv (n_build rfl rfl rfl rfl rfl) rfl <| n_buildSliceL (xs := ([(⟨v15.1, v16.1⟩ : PropS)]).map PropS.av) rfl rfl rfl rfl rfl rfl <| bndE h fun l17 e5 h => t_append (g := PropS.av) rfl rfl rfl rfl rfl rfl rfl rfl (.list _) e5 (fun _ => .p1) rfl fun b18 => rA rfl rfl <| rN <| tSR <| rM rfl rfl <| bndE h fun v19 e6 h => t_call0 rfl (slices_SortFunc_Prop_Prop_c (fun e => propOrder_c (GI := strongT) (Option.some.inj e)) (lenOk_f e6)) (CoL.refl _) (.cons .p1 .nil) rfl rfl <| ARun.ghost <| ImpX.eqs (s := 4) (av' := .sl 5 b18 0 v19.length) rfl (congrArg (AV.sl 5 b18 0) (lenOk_l e6)) <| ImpX.here <| ARun.ghost <| ImpX.eqs (s := 18) (av' := .sl 5 b18 0 v19.length) rfl (congrArg (AV.sl 5 b18 0) (lenOk_l e6)) <| ImpX.here <| ARun.ghost <| ImpX.eqs (s := 19) (av' := .sl 5 b18 0 v19.length) rfl (congrArg (AV.sl 5 b18 0) (lenOk_l e6)) <| ImpX.here <| rN <| tSR <| rM rfl rfl <| bndE h fun v20 e7 h => r_callpB rfl (Q_PropsFault_c e7) (.cons (CoB.arrT .p0) .nil) rfl rfl <| ARun.qv (q_eql rfl rfl) rfl <| rN <| ATodo.cut (fun σ' => ∃ (b21 : Bk) (l22 : List PropS), Stream_RightProps_j1 n11 v16 l22 = some z1 ∧ σ' = ⟨27, [(0, .ptr b_0 0), (3, .sl 5 b21 0 l22.length), (6, I v1.1), (7, I n11)], [(b_0, .cells [.list 1 (v16.2.L.map I), I v16.2.at_]), (b21, .arr 5 (l22.map PropS.av))]⟩) ?_ ?_
      · refine ATodo.cond_d rfl (fun hc => ?_) (fun hc => ?_)
        · exact have h := iteT hc h; tR <| rM rfl rfl <| rA rfl rfl <| rN <| ATodo.stop <| ImpX.lq [1, 0] ⟨b18, v19, h, rfl⟩ rfl rfl
        · exact have h := iteF hc h; tK <| ATodo.stop <| ImpX.lq [1, 1] ⟨b9, l10, h, rfl⟩ rfl rfl
      · rintro σ' ⟨b21, l22, h, rfl⟩
        unfold Stream_RightProps_j1 at h
        refine ATodo.blk <| tR <| ARun.qv (q_addw rfl rfl) rfl <| rM rfl rfl <| rN <| ATodo.stop <| ?_
        obtain rfl := Option.some.inj h
        exact hJ1 _ _ rfl <| ImpX.lq [0, 0] ⟨b21, rfl⟩ rfl rfl
    · refine have h := iteF hc h; ATodo.exit rfl <| have h := outL h hA1; tSR <| rM rfl rfl <| rA rfl rfl <| rN <| ATodo.ret <| ?_
      obtain rfl := Option.some.inj h
      exact ImpX.here ⟨_, .cons (.tmp _ _ rfl) .nil, _, .cons .p0 (.cons .p0 .nil), ⟨b9, rfl, rfl⟩⟩

set_option maxHeartbeats 4000000 in
theorem Q_DifferOf_c [GI : GTab] {p0x0 : List PropS} {p1x0 : List PropS} {r : (List Change)} (h : Q_DifferOf p0x0 p1x0 = some r) : ACall Tryz.prog 84 [.list 5 (p0x0.map PropS.av), .list 5 (p1x0.map PropS.av)] [] (T1 (fun d_0 => [(d_0, .arr 9 (r.map Change.av))]) (fun d_0 => .sl 9 d_0 0 r.length)) := by
  unfold Q_DifferOf at h
  refine ACall.lessH ?_
  refine ACall.bodyN Tryz.func84 rfl Tryz.ntmps84 Tryz.results84 rfl rfl ?_
  refine tSR <| rA rfl rfl <| rN <| tSR <| rA rfl rfl <| rN <| tS <| tSR <| rM rfl rfl <| rM rfl rfl <| n_buildSliceL (xs := ([p0x0, p1x0] : List (List PropS)).map (encL 5 PropS.av)) rfl rfl rfl rfl rfl rfl <| bndE h fun v1 e1 h => t_call1 rfl (Q_namesOf_c e1) (CoL.refl _) .nil (fun _ => rfl) rfl fun b2 => ARun.qv (t_len_sl rfl) rfl <| rM rfl rfl <| rN <| ATodo.block <| ATodo.loopI (fun x : (List Change) × Int => Q_DifferOf_b1 p0x0 p1x0 v1 x.1 x.2) (fun x σ' => ∃ (b6 : Bk), σ' = ⟨37, [(0, .list 5 (p0x0.map PropS.av)), (1, .list 5 (p1x0.map PropS.av)), (5, .sl 9 b6 0 x.1.length), (13, .sl 1 b2 0 v1.length), (14, I (v1.length : Int)), (15, I x.2)], [(b6, .arr 9 (x.1.map Change.av)), (b2, .arr 1 (v1.map AV.str))]⟩) h ?_ ?_
  · exact ImpX.arr (s := 5) 9 rfl fun b9 => ImpX.lq [0, 0] ⟨b9, rfl⟩ rfl rfl
  · intro x z1 σ' J1 hmk h hJ1 hA1
    obtain ⟨l7, n8⟩ := x
    obtain ⟨b6, rfl⟩ := hmk
    replace h : Q_DifferOf_b1 p0x0 p1x0 v1 l7 n8 = some z1 := h
    unfold Q_DifferOf_b1 at h
    refine tSR <| ARun.qv (q_lss rfl rfl) rfl <| rN <| tS <| ATodo.cond_d rfl (fun hc => ?_) (fun hc => ?_)
    · refine have h := iteT hc h; tK <| tS <| ATodo.block <| tSR <| bndE h fun v10 e2 h => ARun.qv (t_index_sl rfl rfl rfl e2) rfl <| ARun.qv (t_load_aptr (g := AV.str) rfl rfl (.inl .p1) e2 rfl) rfl <| rA rfl rfl <| rN <| tSR <| rM rfl rfl <| rM rfl rfl <| bndE h fun v11 e3 h => r_callp rfl (Q_ValueOf_c e3) (CoL.refl _) rfl <| rM rfl rfl <| rM rfl rfl <| bndE h fun v12 e4 h => r_callp rfl (Q_ValueOf_c e4) (CoL.refl _) rfl <| n_alloc rfl rfl rfl rfl fun b13 => n_alloc rfl rfl rfl rfl fun b14 => n_store_ptr rfl rfl rfl rfl .p1 rfl rfl <| n_store_ptr rfl rfl rfl rfl .p0 rfl rfl <| rN <| tSR <| ARun.qv (q_load_ptr_all rfl rfl .p1 rfl) rfl <| ARun.qv (q_load_ptr_all rfl rfl .p0 rfl) rfl <| ARun.qv (t_tne (g := ValueS.av) (X := v11) (Y := v12) rfl rfl rfl rfl rfl) rfl <| rN <| ATodo.cut (fun σ' => ∃ (b15 : Bk) (l16 : List Change), Q_DifferOf_j1 n8 l16 = some z1 ∧ σ' = ⟨37, [(0, .list 5 (p0x0.map PropS.av)), (1, .list 5 (p1x0.map PropS.av)), (5, .sl 9 b15 0 l16.length), (13, .sl 1 b2 0 v1.length), (14, I (v1.length : Int)), (15, I n8)], [(b15, .arr 9 (l16.map Change.av)), (b2, .arr 1 (v1.map AV.str))]⟩) ?_ ?_
      · refine ATodo.cond_d rfl (fun hc => ?_) (fun hc => ?_)
        · exact have h := iteT hc h; tR <| rM rfl rfl <| rM rfl rfl <| ARun.qv (q_load_ptr_all rfl rfl .p1 rfl) rfl <| ARun.qv (q_load_ptr_all rfl rfl .p0 rfl) rfl <| ARun.qv (n_build rfl rfl rfl rfl rfl) rfl <| n_buildSliceL (xs := ([(⟨v10, v11, v12⟩ : Change)]).map Change.av) rfl rfl rfl rfl rfl rfl <| bndE h fun l17 e5 h => t_append (g := Change.av) rfl rfl rfl rfl rfl rfl rfl rfl (.list _) e5 (fun _ => .p2) rfl fun b18 => rA rfl rfl <| rN <| ATodo.stop <| ImpX.lq [2, 2] ⟨b18, l17, h, rfl⟩ rfl rfl
        · exact have h := iteF hc h; tK <| ATodo.stop <| ImpX.lq [2, 2] ⟨b6, l7, h, rfl⟩ rfl rfl
      · rintro σ' ⟨b15, l16, h, rfl⟩
        unfold Q_DifferOf_j1 at h
        refine ATodo.blk <| tR <| ARun.qv (q_addw rfl rfl) rfl <| rM rfl rfl <| rN <| ATodo.stop <| ?_
        obtain rfl := Option.some.inj h
        exact hJ1 _ _ rfl <| ImpX.lq [0, 0] ⟨b15, rfl⟩ rfl rfl
    · refine have h := iteF hc h; ATodo.exit rfl <| have h := outL h hA1; tSR <| rM rfl rfl <| rA rfl rfl <| rN <| ATodo.ret <| ?_
      obtain rfl := Option.some.inj h
      exact ImpX.here ⟨_, .cons (.tmp _ _ rfl) .nil, _, .cons .p0 .nil, ⟨b6, rfl, rfl⟩⟩

set_option maxHeartbeats 4000000 in
theorem Stream_Changes_c {b_0 : Bk} {p0x0 : Fleetmake_Stream} {p1x0 : List PropS} {r : (List Change) × Fleetmake_Stream} (h : Stream_Changes p0x0 p1x0 = some r) : ACall Tryz.prog 35 [.ptr b_0 0, .list 5 (p1x0.map PropS.av)] [(b_0, .cells [.list 1 (p0x0.L.map I), I p0x0.at_])] (T1 (fun d_0 => [(b_0, .cells [.list 1 (r.2.L.map I), I r.2.at_]), (d_0, .arr 9 (r.1.map Change.av))]) (fun d_0 => .sl 9 d_0 0 r.1.length)) := by
  unfold Stream_Changes at h
  refine ACall.lessH ?_
  refine ACall.bodyN Tryz.func35 rfl Tryz.ntmps35 Tryz.results35 rfl rfl ?_
  refine tSR <| rA rfl rfl <| rN <| tSR <| rM rfl rfl <| rM rfl rfl <| bndE h fun v1 e1 h => t_call1 rfl (Stream_RightProps_c e1) (CoL.refl _) (.cons .p0 .nil) (fun _ => rfl) rfl fun b2 => bndE h fun v3 e2 h => t_callL1 rfl (Q_DifferOf_c e2) .nil (.cons (.co (.refl _)) (.cons (CoB.arrT .p1) .nil)) (fun _ => rfl) (fun _ => rfl) (fun _ => (.cons (NoS.arrT (fun _ => rfl)) .nil)) rfl fun b4 => rA rfl rfl <| rN <| tS <| tS <| ATodo.cut (fun σ' => ∃ (l5 : List Int) (n6 : Int) (c7 : Bool), Stream_Changes_j1 v3 l5 n6 c7 = some r ∧ σ' = ⟨55, [(0, .ptr b_0 0), (5, .sl 9 b4 0 v3.length), (17, .bool c7)], [(b_0, .cells [.list 1 (l5.map I), I n6]), (b4, .arr 9 (v3.map Change.av))]⟩) ?_ ?_
  · refine tR <| rM rfl rfl <| ARun.qv (t_len_sl rfl) rfl <| ARun.qv (q_gtr rfl rfl) rfl <| rM rfl rfl <| ARun.guard_dt rfl rfl rfl (fun hc => ?_) (fun hc => ?_)
    · exact have h := iteT hc h; rM rfl rfl <| rY rfl rfl rfl <| bndE h fun v8 e3 h => t_call0 rfl (Stream_Flip_c e3) (CoL.refl _) (.cons .p1 .nil) rfl rfl <| rT rfl rfl rfl <| rN <| ATodo.stop <| ImpX.lq [0, 0] ⟨v8.2.L, v8.2.at_, v8.1, h, rfl⟩ rfl rfl
    · exact have h := iteF hc h; rG rfl rfl rfl rfl <| rE rfl rfl rfl <| rN <| ATodo.stop <| ImpX.lq [1, 0] ⟨v1.2.L, v1.2.at_, false, h, rfl⟩ rfl rfl
  · rintro σ' ⟨l5, n6, c7, h, rfl⟩
    unfold Stream_Changes_j1 at h
    refine ATodo.cut (fun σ' => ∃ (l9 : List Int) (n10 : Int) (l11 : List Change), Stream_Changes_j2 l9 n10 l11 = some r ∧ σ' = ⟨55, [(5, .sl 9 b4 0 l11.length)], [(b_0, .cells [.list 1 (l9.map I), I n10]), (b4, .arr 9 (l11.map Change.av))]⟩) ?_ ?_
    · refine ATodo.cond rfl (fun hc => ?_) (fun hc => ?_)
      · refine have h := iteT hc h; tSR <| rM rfl rfl <| rM rfl rfl <| rM rfl rfl <| ARun.qv (t_len_sl rfl) rfl <| bndE h fun v12 e4 h => t_call0 rfl (Stream_Next_c e4) (CoL.refl _) (.cons .p0 .nil) rfl rfl <| bndE h fun v13 e5 h => ARun.qv (t_index_sl rfl rfl rfl e5) rfl <| rA rfl rfl <| rN <| tSR <| rM rfl rfl <| bndE h fun v14 e6 h => t_call0 rfl (Stream_Next_c e6) (CoL.refl _) (.cons .p0 .nil) rfl rfl <| rN <| ATodo.block <| tSR <| ARun.qv (q_eql rfl rfl) rfl <| rA rfl rfl <| rN <| ATodo.cut (fun σ' => ∃ (l15 : List Int) (n16 : Int) (l17 : List Change), Stream_Changes_j3 l15 n16 l17 = some r ∧ σ' = ⟨55, [(5, .sl 9 b4 0 l17.length)], [(b_0, .cells [.list 1 (l15.map I), I n16]), (b4, .arr 9 (l17.map Change.av))]⟩) ?_ ?_
        · refine ATodo.cond_d rfl (fun hc => ?_) (fun hc => ?_)
          · exact have h := iteT hc h; tR <| rM rfl rfl <| rM rfl rfl <| bndE h fun v18 e7 h => t_call0 rfl (Stream_PropName_c e7) (CoL.refl _) (.cons .p0 .nil) rfl rfl <| ARun.qv (q_nilCheck_aptr rfl) rfl <| ARun.qv (t_field_aptr rfl rfl) rfl <| t_store_aptr1 (g := Change.av) (el' := (⟨v18.1, v13.From, v13.To⟩ : Change)) rfl rfl rfl rfl e5 rfl .p1 rfl <| ARun.ghost <| ImpX.eqs (s := 5) (av' := .sl 9 b4 0 (v3.set v12.1.toNat (⟨v18.1, v13.From, v13.To⟩ : Change)).length) rfl (by rw [List.length_set]) <| ImpX.here <| ARun.ghost <| ImpX.eqs (s := 18) (av' := .sl 9 b4 0 (v3.set v12.1.toNat (⟨v18.1, v13.From, v13.To⟩ : Change)).length) rfl (by rw [List.length_set]) <| ImpX.here <| ARun.ghost <| ImpX.eqs (s := 20) (av' := .sl 9 b4 0 (v3.set v12.1.toNat (⟨v18.1, v13.From, v13.To⟩ : Change)).length) rfl (by rw [List.length_set]) <| ImpX.here <| rN <| ATodo.stop <| ImpX.lq [0, 0] ⟨v18.2.L, v18.2.at_, v3.set v12.1.toNat (⟨v18.1, v13.From, v13.To⟩ : Change), h, rfl⟩ rfl rfl
          · refine have h := iteF hc h; tSR <| ARun.qv (q_eql rfl rfl) rfl <| rA rfl rfl <| rN <| ATodo.cut (fun σ' => ∃ (l19 : List Int) (n20 : Int) (l21 : List Change), Stream_Changes_j4 l19 n20 l21 = some r ∧ σ' = ⟨55, [(5, .sl 9 b4 0 l21.length)], [(b_0, .cells [.list 1 (l19.map I), I n20]), (b4, .arr 9 (l21.map Change.av))]⟩) ?_ ?_
            · refine ATodo.cond_d rfl (fun hc => ?_) (fun hc => ?_)
              · exact have h := iteT hc h; tR <| rM rfl rfl <| rM rfl rfl <| bndE h fun v22 e8 h => t_call0 rfl (Stream_Value_c e8) (CoL.refl _) (.cons .p0 .nil) rfl rfl <| ARun.qv (q_nilCheck_aptr rfl) rfl <| ARun.qv (t_field_aptr rfl rfl) rfl <| t_store_aptr1 (g := Change.av) (el' := (⟨v13.Name, v22.1, v13.To⟩ : Change)) rfl rfl rfl rfl e5 rfl .p1 rfl <| ARun.ghost <| ImpX.eqs (s := 5) (av' := .sl 9 b4 0 (v3.set v12.1.toNat (⟨v13.Name, v22.1, v13.To⟩ : Change)).length) rfl (by rw [List.length_set]) <| ImpX.here <| ARun.ghost <| ImpX.eqs (s := 18) (av' := .sl 9 b4 0 (v3.set v12.1.toNat (⟨v13.Name, v22.1, v13.To⟩ : Change)).length) rfl (by rw [List.length_set]) <| ImpX.here <| ARun.ghost <| ImpX.eqs (s := 20) (av' := .sl 9 b4 0 (v3.set v12.1.toNat (⟨v13.Name, v22.1, v13.To⟩ : Change)).length) rfl (by rw [List.length_set]) <| ImpX.here <| rN <| ATodo.stop <| ImpX.lq [0, 0] ⟨v22.2.L, v22.2.at_, v3.set v12.1.toNat (⟨v13.Name, v22.1, v13.To⟩ : Change), h, rfl⟩ rfl rfl
              · refine have h := iteF hc h; tSR <| ARun.qv (q_eql rfl rfl) rfl <| rA rfl rfl <| rN <| ATodo.cut (fun σ' => ∃ (l23 : List Int) (n24 : Int) (l25 : List Change), Stream_Changes_j5 l23 n24 l25 = some r ∧ σ' = ⟨55, [(5, .sl 9 b4 0 l25.length)], [(b_0, .cells [.list 1 (l23.map I), I n24]), (b4, .arr 9 (l25.map Change.av))]⟩) ?_ ?_
                · refine ATodo.cond_d rfl (fun hc => ?_) (fun hc => ?_)
                  · exact have h := iteT hc h; tR <| rM rfl rfl <| rM rfl rfl <| bndE h fun v26 e9 h => t_call0 rfl (Stream_Value_c e9) (CoL.refl _) (.cons .p0 .nil) rfl rfl <| ARun.qv (q_nilCheck_aptr rfl) rfl <| ARun.qv (t_field_aptr rfl rfl) rfl <| t_store_aptr1 (g := Change.av) (el' := (⟨v13.Name, v13.From, v26.1⟩ : Change)) rfl rfl rfl rfl e5 rfl .p1 rfl <| ARun.ghost <| ImpX.eqs (s := 5) (av' := .sl 9 b4 0 (v3.set v12.1.toNat (⟨v13.Name, v13.From, v26.1⟩ : Change)).length) rfl (by rw [List.length_set]) <| ImpX.here <| ARun.ghost <| ImpX.eqs (s := 18) (av' := .sl 9 b4 0 (v3.set v12.1.toNat (⟨v13.Name, v13.From, v26.1⟩ : Change)).length) rfl (by rw [List.length_set]) <| ImpX.here <| ARun.ghost <| ImpX.eqs (s := 20) (av' := .sl 9 b4 0 (v3.set v12.1.toNat (⟨v13.Name, v13.From, v26.1⟩ : Change)).length) rfl (by rw [List.length_set]) <| ImpX.here <| rN <| ATodo.stop <| ImpX.lq [0, 0] ⟨v26.2.L, v26.2.at_, v3.set v12.1.toNat (⟨v13.Name, v13.From, v26.1⟩ : Change), h, rfl⟩ rfl rfl
                  · exact have h := iteF hc h; tR <| rM rfl rfl <| rM rfl rfl <| ARun.qv (q_nilCheck_aptr rfl) rfl <| ARun.qv (t_field_aptr rfl rfl) rfl <| ARun.qv (t_load_aptr_part (g := Change.av) rfl rfl (.inl .p1) e5 rfl rfl) rfl <| ARun.qv (q_nilCheck_aptr rfl) rfl <| ARun.qv (t_field_aptr rfl rfl) rfl <| t_store_aptr1 (g := Change.av) (el' := (⟨v13.Name, v13.To, v13.To⟩ : Change)) rfl rfl rfl rfl e5 rfl .p1 rfl <| ARun.ghost <| ImpX.eqs (s := 5) (av' := .sl 9 b4 0 (v3.set v12.1.toNat (⟨v13.Name, v13.To, v13.To⟩ : Change)).length) rfl (by rw [List.length_set]) <| ImpX.here <| ARun.ghost <| ImpX.eqs (s := 18) (av' := .sl 9 b4 0 (v3.set v12.1.toNat (⟨v13.Name, v13.To, v13.To⟩ : Change)).length) rfl (by rw [List.length_set]) <| ImpX.here <| ARun.ghost <| ImpX.eqs (s := 20) (av' := .sl 9 b4 0 (v3.set v12.1.toNat (⟨v13.Name, v13.To, v13.To⟩ : Change)).length) rfl (by rw [List.length_set]) <| ImpX.here <| rN <| ATodo.stop <| ImpX.lq [0, 0] ⟨v14.2.L, v14.2.at_, v3.set v12.1.toNat (⟨v13.Name, v13.To, v13.To⟩ : Change), h, rfl⟩ rfl rfl
                · rintro σ' ⟨l23, n24, l25, h, rfl⟩
                  unfold Stream_Changes_j5 at h
                  exact ATodo.stop <| ImpX.lq [0, 0] ⟨l23, n24, l25, h, rfl⟩ rfl rfl
            · rintro σ' ⟨l19, n20, l21, h, rfl⟩
              unfold Stream_Changes_j4 at h
              exact ATodo.stop <| ImpX.lq [0, 0] ⟨l19, n20, l21, h, rfl⟩ rfl rfl
        · rintro σ' ⟨l15, n16, l17, h, rfl⟩
          unfold Stream_Changes_j3 at h
          exact ATodo.blk <| ATodo.stop <| ImpX.lq [0, 0] ⟨l15, n16, l17, h, rfl⟩ rfl rfl
      · exact have h := iteFb hc h; tK <| ATodo.stop <| ImpX.lq [0, 0] ⟨l5, n6, v3, h, rfl⟩ rfl rfl
    · rintro σ' ⟨l9, n10, l11, h, rfl⟩
      unfold Stream_Changes_j2 at h
      refine tSR <| rM rfl rfl <| rA rfl rfl <| rN <| ATodo.ret <| ?_
      obtain rfl := Option.some.inj h
      exact ImpX.here ⟨_, .cons (.tmp _ _ rfl) .nil, _, .cons .p0 (.cons .p0 .nil), ⟨b4, rfl, rfl⟩⟩

set_option maxHeartbeats 4000000 in
theorem twin_CheckChanges_c {p0x0 : List Change} {r : Int} (h : twin_CheckChanges p0x0 = some r) : Pu Tryz.prog 86 [.list 9 (p0x0.map Change.av)] (I r) := by
  unfold twin_CheckChanges at h
  refine ACall.bodyN Tryz.func86 rfl Tryz.ntmps86 Tryz.results86 rfl rfl ?_
  refine tSR <| rA rfl rfl <| rN <| tS <| tSR <| rM rfl rfl <| ARun.qv (t_len rfl) rfl <| ARun.qv (q_gtr rfl rfl) rfl <| rN <| ATodo.cond_d rfl (fun hc => ?_) (fun hc => ?_)
  · refine have h := iteT hc h; tSR <| rA rfl rfl <| rN <| ATodo.ret <| ?_
    obtain rfl := Option.some.inj h
    exact ImpX.here ⟨_, .cons (.tmp _ _ rfl) .nil, rfl⟩
  · refine have h := iteF hc h; tK <| tS <| tSR <| rM rfl rfl <| ARun.qv (t_len rfl) rfl <| rM rfl rfl <| rN <| ATodo.block <| ATodo.loopI (fun x : Int => twin_CheckChanges_b1 p0x0 x) (fun x σ' => σ' = ⟨50, [(0, .list 9 (p0x0.map Change.av)), (9, .list 9 (p0x0.map Change.av)), (10, I (p0x0.length : Int)), (11, I x)], []⟩) h ?_ ?_
    · exact ImpX.lq [] rfl rfl rfl
    · intro n2 z1 σ' J1 hmk h hJ1 hA1
      obtain rfl := hmk
      replace h : twin_CheckChanges_b1 p0x0 n2 = some z1 := h
      unfold twin_CheckChanges_b1 at h
      refine tSR <| ARun.qv (q_lss rfl rfl) rfl <| rN <| tS <| ATodo.cond_d rfl (fun hc => ?_) (fun hc => ?_)
      · refine have h := iteT hc h; tK <| tS <| ATodo.block <| tSR <| rM rfl rfl <| bndE h fun v3 e1 h => ARun.qv (t_index rfl rfl rfl e1 rfl rfl) rfl <| ARun.qv (q_load_rptr_agg rfl rfl rfl) rfl <| n_alloc rfl rfl rfl rfl fun b4 => rA rfl rfl <| n_store_ptr rfl rfl rfl rfl .p0 rfl rfl <| rN <| tS <| tSR <| rF rfl rfl rfl <| rL rfl rfl .p0 rfl rfl <| bndE h fun v5 e2 h => r_callp rfl (twin_isName_c e2) (CoL.refl _) rfl <| ARun.qv (q_not rfl) rfl <| rN <| ATodo.cond rfl (fun hc => ?_) (fun hc => ?_)
        · refine have h := iteT hc h; tSR <| rA rfl rfl <| rN <| ATodo.ret <| have h := outL h hA1; ?_
          obtain rfl := Option.some.inj h
          exact ImpX.here ⟨_, .cons (.tmp _ _ rfl) .nil, rfl⟩
        · refine have h := iteFb hc h; tK <| tS <| tS <| ATodo.regionM (id := 8) (A := [0, 1, 3, 0, 8, 31, 63, 127, 255]) 9 mixed rfl (by kernel_rfl) (by kernel_rfl) <| AM.qv (n_field_ptr rfl rfl) rfl <| AM.qv (n_load_ptr_part rfl rfl .p0 rfl rfl) rfl <| bndE h fun v6 e3 h => AM.callp rfl (twin_valueFault_c e3) (CoL.refl _) rfl <| AM.qv (n_field_ptr rfl rfl) rfl <| AM.qv (n_load_ptr_part rfl rfl .p0 rfl rfl) rfl <| bndE h fun v7 e4 h => AM.callp rfl (twin_valueFault_c e4) (CoL.refl _) rfl <| AM.buildSliceL (xs := ([v6, v7] : List Int).map I) rfl rfl rfl rfl rfl rfl <| bndE h fun v8 e5 h => AM.callp rfl (base_First_c e5) (CoL.refl _) rfl <| AM.qv (q_assign rfl) rfl <| AM.nil <| rN <| tSR <| rM rfl rfl <| ARun.qv (q_neq rfl rfl) rfl <| rN <| ATodo.cond_d rfl (fun hc => ?_) (fun hc => ?_)
          · refine have h := iteT hc h; tSR <| rM rfl rfl <| rA rfl rfl <| rN <| ATodo.ret <| have h := outL h hA1; ?_
            obtain rfl := Option.some.inj h
            exact ImpX.here ⟨_, .cons (.tmp _ _ rfl) .nil, rfl⟩
          · refine have h := iteF hc h; tK <| tS <| tSR <| rF rfl rfl rfl <| ARun.qv (n_load_ptr_part rfl rfl .p0 rfl rfl) rfl <| rF rfl rfl rfl <| ARun.qv (n_load_ptr_part rfl rfl .p0 rfl rfl) rfl <| ARun.qv (t_teq (g := ValueS.av) (X := v3.From) (Y := v3.To) rfl rfl rfl rfl rfl) rfl <| rN <| ATodo.cond_d rfl (fun hc => ?_) (fun hc => ?_)
            · refine have h := iteT hc h; tSR <| rA rfl rfl <| rN <| ATodo.ret <| have h := outL h hA1; ?_
              obtain rfl := Option.some.inj h
              exact ImpX.here ⟨_, .cons (.tmp _ _ rfl) .nil, rfl⟩
            · refine have h := iteF hc h; tK <| tS <| ATodo.cut (fun σ' => ∃ (c9 : Bool), twin_CheckChanges_j1 n2 c9 = some z1 ∧ σ' = ⟨50, [(0, .list 9 (p0x0.map Change.av)), (9, .list 9 (p0x0.map Change.av)), (10, I (p0x0.length : Int)), (11, I n2), (48, .bool c9)], []⟩) ?_ ?_
              · refine ATodo.regionM (id := 13) (A := [0, 1, 3, 7, 15, 7, 7, 71, 231, 487, 999, 2047, 4095]) 13 mixed rfl (by kernel_rfl) (by kernel_rfl) <| AM.qv (q_move rfl) rfl <| AM.qv (q_gtr rfl rfl) rfl <| AM.qv (q_move rfl) rfl <| AM.guard_dt rfl rfl rfl (fun hc => ?_) (fun hc => ?_)
                · exact have h := iteT hc h; AM.qv (n_field_ptr rfl rfl) rfl <| AM.guard_yes rfl rfl rfl <| AM.qv (q_load_ptr rfl rfl .p0 rfl) rfl <| AM.guard_yes rfl rfl rfl <| AM.qv (q_move rfl) rfl <| AM.guard_yes rfl rfl rfl <| AM.qv (q_move rfl) rfl <| AM.guard_yes rfl rfl rfl <| AM.qv (q_subw rfl rfl) rfl <| AM.guard_yes rfl rfl rfl <| bndE h fun v10 e6 h => AM.qv (t_index rfl rfl rfl e6 rfl rfl) rfl <| AM.guard_yes rfl rfl rfl <| AM.qv (n_field_rptr rfl rfl) rfl <| AM.guard_yes rfl rfl rfl <| AM.qv (q_load_rptr rfl rfl rfl) rfl <| AM.guard_yes rfl rfl rfl <| AM.qv (t_sleq rfl rfl) rfl <| AM.qv (q_pick_t rfl rfl) rfl <| AM.nil <| rN <| ATodo.stop <| ImpX.lq [] ⟨Op.bytesLess v3.Name v10.Name || v3.Name == v10.Name, h, rfl⟩ rfl rfl
                · exact have h := iteF hc h; AM.guard_no rfl rfl rfl rfl <| AM.guard_no rfl rfl rfl rfl <| AM.guard_no rfl rfl rfl rfl <| AM.guard_no rfl rfl rfl rfl <| AM.guard_no rfl rfl rfl rfl <| AM.guard_no rfl rfl rfl rfl <| AM.guard_no rfl rfl rfl rfl <| AM.guard_no rfl rfl rfl rfl <| AM.qv (q_pick_f rfl rfl) rfl <| AM.nil <| rN <| ATodo.stop <| ImpX.lq [] ⟨false, h, rfl⟩ rfl rfl
              · rintro σ' ⟨c9, h, rfl⟩
                unfold twin_CheckChanges_j1 at h
                refine ATodo.cond rfl (fun hc => ?_) (fun hc => ?_)
                · refine have h := iteT hc h; tSR <| rA rfl rfl <| rN <| ATodo.ret <| have h := outL h hA1; ?_
                  obtain rfl := Option.some.inj h
                  exact ImpX.here ⟨_, .cons (.tmp _ _ rfl) .nil, rfl⟩
                · refine have h := iteFb hc h; tK <| ATodo.blk <| tR <| ARun.qv (q_addw rfl rfl) rfl <| rM rfl rfl <| rN <| ATodo.stop <| ?_
                  obtain rfl := Option.some.inj h
                  exact hJ1 _ _ rfl <| ImpX.lq [] rfl rfl rfl
      · refine have h := iteF hc h; ATodo.exit rfl <| have h := outL h hA1; tSR <| rA rfl rfl <| rN <| ATodo.ret <| ?_
        obtain rfl := Option.some.inj h
        exact ImpX.here ⟨_, .cons (.tmp _ _ rfl) .nil, rfl⟩

set_option maxHeartbeats 4000000 in
theorem twin_Take_1x_c [GI : GTab] {p0x0 : Cell} {p1x0 : Stamp} {r : Bool} (h : twin_Take_1x p0x0 p1x0 = some r) : Pu Tryz.prog 87 [.agg [.str p0x0.Prop_.Name, I p0x0.Prop_.Value.Kind, .bool p0x0.Prop_.Value.Flag, I p0x0.Prop_.Value.Number, .str p0x0.Prop_.Value.Words, I p0x0.Stamp.At, .str p0x0.Stamp.By, I p0x0.Stamp.No], .rptr [I p1x0.At, .str p1x0.By, I p1x0.No]] (.bool r) := by
  unfold twin_Take_1x at h
  refine ACall.bodyN Tryz.func87 rfl Tryz.ntmps87 Tryz.results87 rfl rfl ?_
  refine tSR <| n_box rfl rfl rfl rfl fun b1 => rA rfl rfl <| rN <| tSR <| rF rfl rfl rfl <| ARun.qv (n_load_ptr_part rfl rfl .p0 rfl rfl) rfl <| ARun.qv (q_load_rptr_agg rfl rfl rfl) rfl <| bndE h fun v2 e1 h => r_callp rfl (twin_byStamp_c e1) (CoL.refl _) rfl <| ARun.qv (q_geq rfl rfl) rfl <| rA rfl rfl <| rN <| ATodo.ret <| ?_
  obtain rfl := Option.some.inj h
  exact ImpX.here ⟨_, .cons (.tmp _ _ rfl) .nil, rfl⟩

set_option maxHeartbeats 4000000 in
theorem slices_Grow_Cell_Cell_n0x_c [GI : GTab] {p1x0 : Int} {r : (List Cell)} (h : slices_Grow_Cell_Cell_n0x p1x0 = some r) : ACall Tryz.prog 119 [.nil, I p1x0] [] (T1 (fun d_0 => [(d_0, .arr 8 (r.map Cell.av))]) (fun d_0 => .sl 8 d_0 0 r.length)) := by
  unfold slices_Grow_Cell_Cell_n0x at h
  refine ACall.lessH ?_
  refine ACall.bodyN Tryz.func119 rfl Tryz.ntmps119 Tryz.results119 rfl rfl ?_
  refine tSR <| rA rfl rfl <| rN <| tS <| tSR <| rM rfl rfl <| ARun.qv (q_lss rfl rfl) rfl <| rN <| ATodo.cond_d rfl (fun hc => ?_) (fun hc => ?_)
  · refine have h := iteT hc h; tR <| ?_
    cases h
  · refine have h := iteF hc h; tK <| tS <| tSR <| rM rfl rfl <| rM rfl rfl <| ARun.qv (q_cap_nil rfl) rfl <| rM rfl rfl <| ARun.qv (q_len_nil rfl) rfl <| ARun.qv (q_subw rfl rfl) rfl <| ARun.qv (q_subw rfl rfl) rfl <| rA rfl rfl <| rN <| tSR <| rM rfl rfl <| ARun.qv (q_gtr rfl rfl) rfl <| rN <| ATodo.cut (fun σ' => ∃ (b1 : Bk) (l2 : List Cell), slices_Grow_Cell_Cell_n0x_j1 l2 = some r ∧ σ' = ⟨27, [(0, .sl 8 b1 0 l2.length)], [(b1, .arr 8 (l2.map Cell.av))]⟩) ?_ ?_
    · refine ATodo.cond_d rfl (fun hc => ?_) (fun hc => ?_)
      · exact have h := iteT hc h; tR <| rM rfl rfl <| rM rfl rfl <| ARun.qv (q_cap_nil rfl) rfl <| bndE h fun l3 e1 h => ARun.qv (t_slice_nil rfl .none (.some _ _ _ rfl) rfl rfl e1) rfl <| rM rfl rfl <| bndE h fun l4 e2 h => t_appendZ (g := Cell.av) (Z := (⟨(⟨[], (⟨(0 : Int), false, (0 : Int), []⟩ : ValueS)⟩ : PropS), (⟨(0 : Int), [], (0 : Int)⟩ : Stamp)⟩ : Cell)) rfl rfl rfl rfl rfl rfl rfl rfl rfl e2 fun b5 => rM rfl rfl <| ARun.qv (q_len_nil rfl) rfl <| bndE h fun l6 e3 h => ARun.qv (t_slice_sl rfl rfl .none (.some _ _ _ rfl) rfl rfl e3) rfl <| rA rfl rfl <| ARun.ghost <| ImpX.takeT e3 .p0 <| ImpX.here <| rN <| ATodo.stop <| ImpX.lq [0] ⟨b5, l6, h, rfl⟩ rfl rfl
      · exact have h := iteF hc h; tK <| ATodo.stop <| ImpX.arr (s := 0) 8 rfl fun b7 => ImpX.lq [0] ⟨b7, [], h, rfl⟩ rfl rfl
    · rintro σ' ⟨b1, l2, h, rfl⟩
      unfold slices_Grow_Cell_Cell_n0x_j1 at h
      refine tSR <| rM rfl rfl <| rA rfl rfl <| rN <| ATodo.ret <| ?_
      obtain rfl := Option.some.inj h
      exact ImpX.here ⟨_, .cons (.tmp _ _ rfl) .nil, _, .cons .p0 .nil, ⟨b1, rfl, rfl⟩⟩

set_option maxHeartbeats 4000000 in
theorem slices_Concat_Cell_Cell_c [GI : GTab] {p0x0 : List (List Cell)} {r : (List Cell)} (h : slices_Concat_Cell_Cell p0x0 = some r) : ACall Tryz.prog 68 [.list 1 (p0x0.map (encL 8 Cell.av))] [] (T1 (fun d_0 => [(d_0, .arr 8 (r.map Cell.av))]) (fun d_0 => .sl 8 d_0 0 r.length)) := by
  unfold slices_Concat_Cell_Cell at h
  refine ACall.lessH ?_
  refine ACall.bodyN Tryz.func68 rfl Tryz.ntmps68 Tryz.results68 rfl rfl ?_
  refine tSR <| rA rfl rfl <| rN <| tSR <| rA rfl rfl <| rN <| tS <| tSR <| rM rfl rfl <| ARun.qv (t_len rfl) rfl <| rM rfl rfl <| rN <| ATodo.block <| ATodo.loopI (fun x : Int × Int => slices_Concat_Cell_Cell_b1 p0x0 x.1 x.2) (fun x σ' => σ' = ⟨36, [(0, .list 1 (p0x0.map (encL 8 Cell.av))), (3, I x.1), (9, .list 1 (p0x0.map (encL 8 Cell.av))), (10, I (p0x0.length : Int)), (11, I x.2)], []⟩) h ?_ ?_
  · exact ImpX.lq [] rfl rfl rfl
  · intro x z1 σ' J1 hmk h hJ1 hA1
    obtain ⟨n3, n4⟩ := x
    obtain rfl := hmk
    replace h : slices_Concat_Cell_Cell_b1 p0x0 n3 n4 = some z1 := h
    unfold slices_Concat_Cell_Cell_b1 at h
    refine tSR <| ARun.qv (q_lss rfl rfl) rfl <| rN <| tS <| ATodo.cond_d rfl (fun hc => ?_) (fun hc => ?_)
    · refine have h := iteT hc h; tK <| tS <| ATodo.block <| tSR <| bndE h fun v5 e1 h => ARun.qv (t_index rfl rfl rfl e1 rfl rfl) rfl <| ARun.qv (q_load_rptr rfl rfl rfl) rfl <| rA rfl rfl <| rN <| tSR <| rM rfl rfl <| rM rfl rfl <| ARun.qv (t_len rfl) rfl <| ARun.qv (q_addw rfl rfl) rfl <| rA rfl rfl <| rN <| tSR <| rM rfl rfl <| ARun.qv (q_lss rfl rfl) rfl <| rN <| ATodo.cond_d rfl (fun hc => ?_) (fun hc => ?_)
      · refine have h := iteT hc h; tR <| ?_
        cases h
      · refine have h := iteF hc h; tK <| ATodo.blk <| tR <| ARun.qv (q_addw rfl rfl) rfl <| rM rfl rfl <| rN <| ATodo.stop <| ?_
        obtain rfl := Option.some.inj h
        exact hJ1 _ _ rfl <| ImpX.lq [] rfl rfl rfl
    · refine have h := iteF hc h; ATodo.exit rfl <| have h := outL h hA1; ?_
      unfold slices_Concat_Cell_Cell_k1 at h
      refine tSR <| rM rfl rfl <| bndE h fun v6 e2 h => t_call1 rfl (slices_Grow_Cell_Cell_n0x_c e2) (CoL.refl _) .nil (fun _ => rfl) rfl fun b7 => rA rfl rfl <| rN <| tS <| tSR <| rM rfl rfl <| ARun.qv (t_len rfl) rfl <| rM rfl rfl <| rN <| ATodo.block <| ATodo.loopI (fun x : (List Cell) × Int => slices_Concat_Cell_Cell_b2 p0x0 x.1 x.2) (fun x σ' => ∃ (b11 : Bk), σ' = ⟨36, [(6, .sl 8 b11 0 x.1.length), (25, .list 1 (p0x0.map (encL 8 Cell.av))), (26, I (p0x0.length : Int)), (27, I x.2)], [(b11, .arr 8 (x.1.map Cell.av))]⟩) h ?_ ?_
      · exact ImpX.lq [0] ⟨b7, rfl⟩ rfl rfl
      · intro x z2 σ' J2 hmk h hJ2 hA2
        obtain ⟨l12, n13⟩ := x
        obtain ⟨b11, rfl⟩ := hmk
        replace h : slices_Concat_Cell_Cell_b2 p0x0 l12 n13 = some z2 := h
        unfold slices_Concat_Cell_Cell_b2 at h
        refine tSR <| ARun.qv (q_lss rfl rfl) rfl <| rN <| tS <| ATodo.cond_d rfl (fun hc => ?_) (fun hc => ?_)
        · refine have h := iteT hc h; tK <| tS <| ATodo.block <| tSR <| bndE h fun v14 e3 h => ARun.qv (t_index rfl rfl rfl e3 rfl rfl) rfl <| ARun.qv (q_load_rptr rfl rfl rfl) rfl <| rA rfl rfl <| rN <| tR <| rM rfl rfl <| rM rfl rfl <| bndE h fun l15 e4 h => t_append (g := Cell.av) rfl rfl rfl rfl rfl rfl rfl rfl (.list _) e4 (fun _ => .p0) rfl fun b16 => rA rfl rfl <| rN <| ATodo.blk <| tR <| ARun.qv (q_addw rfl rfl) rfl <| rM rfl rfl <| rN <| ATodo.stop <| ?_
          obtain rfl := Option.some.inj h
          exact hJ2 _ _ rfl <| ImpX.lq [0] ⟨b16, rfl⟩ rfl rfl
        · refine have h := iteF hc h; ATodo.exit rfl <| have h := outL h hA2; tSR <| rM rfl rfl <| rA rfl rfl <| rN <| ATodo.ret <| ?_
          obtain rfl := Option.some.inj h
          exact ImpX.here ⟨_, .cons (.tmp _ _ rfl) .nil, _, .cons .p0 .nil, ⟨b11, rfl, rfl⟩⟩

set_option maxHeartbeats 4000000 in
theorem twin_joined_c [GI : GTab] {p0x0 : List Cell} {p1x0 : List Cell} {r : (List Cell) × Int} (h : twin_joined p0x0 p1x0 = some r) : ACall Tryz.prog 114 [.list 8 (p0x0.map Cell.av), .list 8 (p1x0.map Cell.av)] [] (T1 (fun d_0 => [(d_0, .arr 8 (r.1.map Cell.av))]) (fun d_0 => .tup [.sl 8 d_0 0 r.1.length, I r.2])) := by
  unfold twin_joined at h
  refine ACall.lessH ?_
  refine ACall.bodyN Tryz.func114 rfl Tryz.ntmps114 Tryz.results114 rfl rfl ?_
  refine tSR <| rA rfl rfl <| rA rfl rfl <| rN <| tSR <| rA rfl rfl <| rN <| tS <| ATodo.block <| ATodo.loopI (fun x : (List Cell) × (List Cell) × (List Cell) => twin_joined_b1 x.1 x.2.1 x.2.2) (fun x σ' => ∃ (b7 : Bk), σ' = ⟨99, [(0, .list 8 (x.1.map Cell.av)), (1, .list 8 (x.2.1.map Cell.av)), (6, .sl 8 b7 0 x.2.2.length)], [(b7, .arr 8 (x.2.2.map Cell.av))]⟩) h ?_ ?_
  · exact ImpX.arr (s := 6) 8 rfl fun b9 => ImpX.lq [0] ⟨b9, rfl⟩ rfl rfl
  · intro x z1 σ' J1 hmk h hJ1 hA1
    obtain ⟨l5, l6, l8⟩ := x
    obtain ⟨b7, rfl⟩ := hmk
    replace h : twin_joined_b1 l5 l6 l8 = some z1 := h
    unfold twin_joined_b1 at h
    refine tS <| tS <| ATodo.cut (fun σ' => ∃ (c10 : Bool), twin_joined_j1 l5 l6 l8 c10 = some z1 ∧ σ' = ⟨99, [(0, .list 8 (l5.map Cell.av)), (1, .list 8 (l6.map Cell.av)), (6, .sl 8 b7 0 l8.length), (16, .bool c10)], [(b7, .arr 8 (l8.map Cell.av))]⟩) ?_ ?_
    · refine tR <| rM rfl rfl <| ARun.qv (t_len rfl) rfl <| ARun.qv (q_gtr rfl rfl) rfl <| rM rfl rfl <| ARun.guard_dt rfl rfl rfl (fun hc => ?_) (fun hc => ?_)
      · rw [andTd hc] at h
        exact rM rfl rfl <| rY rfl rfl rfl <| ARun.qv (t_len rfl) rfl <| rY rfl rfl rfl <| ARun.qv (q_gtr rfl rfl) rfl <| rT rfl rfl rfl <| rN <| ATodo.stop <| ImpX.lq [0] ⟨decide ((0 : Int) < (l6.length : Int)), h, rfl⟩ rfl rfl
      · rw [andFd hc] at h
        exact rG rfl rfl rfl rfl <| rG rfl rfl rfl rfl <| rE rfl rfl rfl <| rN <| ATodo.stop <| ImpX.lq [0] ⟨false, h, rfl⟩ rfl rfl
    · rintro σ' ⟨c10, h, rfl⟩
      unfold twin_joined_j1 at h
      refine ATodo.cond rfl (fun hc => ?_) (fun hc => ?_)
      · refine have h := iteT hc h; tK <| ATodo.cut (fun σ' => ∃ (b13 : Bk) (l11 : List Cell) (l12 : List Cell) (l14 : List Cell), twin_joined_j2 l11 l12 l14 = some z1 ∧ σ' = ⟨99, [(0, .list 8 (l11.map Cell.av)), (1, .list 8 (l12.map Cell.av)), (6, .sl 8 b13 0 l14.length)], [(b13, .arr 8 (l14.map Cell.av))]⟩) ?_ ?_
        · refine ATodo.block <| tS <| tS <| ATodo.regionM (id := 3) (A := [0, 1, 3, 7, 15, 0, 32, 96, 224, 480, 1023, 2047]) 12 mixed rfl (by kernel_rfl) (by kernel_rfl) <| AM.qv (q_move rfl) rfl <| bndE h fun v15 e1 h => AM.qv (t_index rfl rfl rfl e1 rfl rfl) rfl <| AM.qv (n_field_rptr rfl rfl) rfl <| AM.qv (n_field_rptr rfl rfl) rfl <| AM.qv (q_load_rptr rfl rfl rfl) rfl <| AM.qv (q_move rfl) rfl <| bndE h fun v16 e2 h => AM.qv (t_index rfl rfl rfl e2 rfl rfl) rfl <| AM.qv (n_field_rptr rfl rfl) rfl <| AM.qv (n_field_rptr rfl rfl) rfl <| AM.qv (q_load_rptr rfl rfl rfl) rfl <| AM.callp rfl (strings_Compare_c rfl) (CoL.refl _) rfl <| AM.qv (q_assign rfl) rfl <| AM.nil <| rN <| ATodo.block <| tSR <| rM rfl rfl <| ARun.qv (q_lss rfl rfl) rfl <| rA rfl rfl <| rN <| ATodo.cond_d rfl (fun hc => ?_) (fun hc => ?_)
          · refine have h := iteT hc h; tS <| bndE h fun v17 e3 h => bndE h fun l18 e4 h => bndE h fun l20 e5 h => ATodo.regionT (id := 5) (A := [0, 0, 2, 6, 14, 31, 0, 64, 63, 511]) (H0 := [(b7, .arr 8 (l8.map Cell.av))]) (HH := fun β => [((β 8), .arr 8 (l18.map Cell.av))]) 9 mixed rfl (by kernel_rfl) (by kernel_rfl) [⟨none, some 5, [], fun _ => (b7, .arr 8 (l8.map Cell.av)), none⟩, ⟨some 5, some 8, [], fun b => (b, .arr 8 (l18.map Cell.av)), none⟩, ⟨some 8, none, [], fun b => (b, .arr 8 (l18.map Cell.av)), none⟩] [5, 8] rfl (by kernel_rfl) rfl (.cons .p0 .nil) (fun _ => rfl) <| AT.am 5 rfl rfl <| AM.qv (q_move rfl) rfl <| AM.qv (q_move rfl) rfl <| AM.qv (t_index rfl rfl rfl e3 rfl rfl) rfl <| AM.qv (q_load_rptr_agg rfl rfl rfl) rfl <| AM.buildSliceL (xs := ([v17] : List Cell).map Cell.av) rfl rfl rfl rfl rfl rfl <| AM.nil <| AT.runD (V := fun b => .sl 8 b 0 l18.length) (Ti := [(b7, .arr 8 (l8.map Cell.av))]) (Pi := fun b => [(b, .arr 8 (l18.map Cell.av))]) (fun _ => rfl) (fun _ => rfl) (fun _ _ => rfl) rfl (fun _ => rfl) rfl rfl rfl ?_ ?_
            · exact t_append (g := Cell.av) rfl rfl rfl rfl rfl rfl rfl rfl (.list _) e4 (fun _ => .p0) rfl fun b19 => ARun.nil ⟨b19, _, rfl, rfl⟩
            refine AT.am 2 rfl rfl <| AM.qv (q_move rfl) rfl <| AM.qv (t_slice_list rfl rfl (.some _ _ _ rfl) .none rfl rfl e5) rfl <| AM.nil <| AT.runE (V := fun b => .sl 8 b 0 l18.length) (Ti := fun β => [(β 5, .arr 8 (l18.map Cell.av))]) (Pi := fun b => [(b, .arr 8 (l18.map Cell.av))]) (fun _ => rfl) (fun _ => rfl) (fun _ _ => rfl) (fun _ => rfl) (fun _ => rfl) rfl rfl rfl (fun β => ?_) ?_
            · generalize β 5 = b19
              exact rA rfl rfl <| ARun.nil ⟨b19, _, rfl, rfl⟩
            refine AT.nilN (fun _ => rfl) fun β => ?_
            generalize β 5 = b19
            generalize β 8 = b21
            clear β
            exact rA rfl rfl <| rN <| ATodo.exit rfl <| ATodo.stop <| ImpX.lq [0] ⟨b21, l20, l6, l18, h, rfl⟩ rfl rfl
          · refine have h := iteF hc h; tSR <| rM rfl rfl <| ARun.qv (q_gtr rfl rfl) rfl <| rA rfl rfl <| rN <| ATodo.cond_d rfl (fun hc => ?_) (fun hc => ?_)
            · refine have h := iteT hc h; tS <| bndE h fun v22 e6 h => bndE h fun l23 e7 h => bndE h fun l25 e8 h => ATodo.regionT (id := 7) (A := [0, 0, 2, 6, 14, 31, 0, 64, 63, 511]) (H0 := [(b7, .arr 8 (l8.map Cell.av))]) (HH := fun β => [((β 8), .arr 8 (l23.map Cell.av))]) 9 mixed rfl (by kernel_rfl) (by kernel_rfl) [⟨none, some 5, [], fun _ => (b7, .arr 8 (l8.map Cell.av)), none⟩, ⟨some 5, some 8, [], fun b => (b, .arr 8 (l23.map Cell.av)), none⟩, ⟨some 8, none, [], fun b => (b, .arr 8 (l23.map Cell.av)), none⟩] [5, 8] rfl (by kernel_rfl) rfl (.cons .p0 .nil) (fun _ => rfl) <| AT.am 5 rfl rfl <| AM.qv (q_move rfl) rfl <| AM.qv (q_move rfl) rfl <| AM.qv (t_index rfl rfl rfl e6 rfl rfl) rfl <| AM.qv (q_load_rptr_agg rfl rfl rfl) rfl <| AM.buildSliceL (xs := ([v22] : List Cell).map Cell.av) rfl rfl rfl rfl rfl rfl <| AM.nil <| AT.runD (V := fun b => .sl 8 b 0 l23.length) (Ti := [(b7, .arr 8 (l8.map Cell.av))]) (Pi := fun b => [(b, .arr 8 (l23.map Cell.av))]) (fun _ => rfl) (fun _ => rfl) (fun _ _ => rfl) rfl (fun _ => rfl) rfl rfl rfl ?_ ?_
              · exact t_append (g := Cell.av) rfl rfl rfl rfl rfl rfl rfl rfl (.list _) e7 (fun _ => .p0) rfl fun b24 => ARun.nil ⟨b24, _, rfl, rfl⟩
              refine AT.am 2 rfl rfl <| AM.qv (q_move rfl) rfl <| AM.qv (t_slice_list rfl rfl (.some _ _ _ rfl) .none rfl rfl e8) rfl <| AM.nil <| AT.runE (V := fun b => .sl 8 b 0 l23.length) (Ti := fun β => [(β 5, .arr 8 (l23.map Cell.av))]) (Pi := fun b => [(b, .arr 8 (l23.map Cell.av))]) (fun _ => rfl) (fun _ => rfl) (fun _ _ => rfl) (fun _ => rfl) (fun _ => rfl) rfl rfl rfl (fun β => ?_) ?_
              · generalize β 5 = b24
                exact rA rfl rfl <| ARun.nil ⟨b24, _, rfl, rfl⟩
              refine AT.nilN (fun _ => rfl) fun β => ?_
              generalize β 5 = b24
              generalize β 8 = b26
              clear β
              exact rA rfl rfl <| rN <| ATodo.exit rfl <| ATodo.stop <| ImpX.lq [0] ⟨b26, l5, l25, l23, h, rfl⟩ rfl rfl
            · refine have h := iteF hc h; tK <| ATodo.blk <| tS <| tS <| ATodo.regionM (id := 8) (A := [0, 1, 3, 7, 0, 16, 48, 112, 255, 511]) 10 mixed rfl (by kernel_rfl) (by kernel_rfl) <| AM.qv (q_move rfl) rfl <| bndE h fun v27 e9 h => AM.qv (t_index rfl rfl rfl e9 rfl rfl) rfl <| AM.qv (n_field_rptr rfl rfl) rfl <| AM.qv (q_load_rptr_agg rfl rfl rfl) rfl <| AM.qv (q_move rfl) rfl <| bndE h fun v28 e10 h => AM.qv (t_index rfl rfl rfl e10 rfl rfl) rfl <| AM.qv (n_field_rptr rfl rfl) rfl <| AM.qv (q_load_rptr_agg rfl rfl rfl) rfl <| bndE h fun v29 e11 h => AM.callp rfl (twin_byStamp_c e11) (CoL.refl _) rfl <| AM.qv (q_assign rfl) rfl <| AM.nil <| rN <| ATodo.block <| tS <| ATodo.cut (fun σ' => ∃ (c30 : Bool), twin_joined_j3 l5 l6 l8 v29 c30 = some z1 ∧ σ' = ⟨99, [(0, .list 8 (l5.map Cell.av)), (1, .list 8 (l6.map Cell.av)), (6, .sl 8 b7 0 l8.length), (8, I v29), (65, .bool c30)], [(b7, .arr 8 (l8.map Cell.av))]⟩) ?_ ?_
              · refine ATodo.regionM (id := 10) (A := [0, 1, 3, 7, 15, 31, 63, 127, 7, 263, 775, 1799, 3847, 8191, 16383, 32767]) 16 mixed rfl (by kernel_rfl) (by kernel_rfl) <| AM.qv (q_move rfl) rfl <| AM.qv (q_eql rfl rfl) rfl <| AM.qv (q_move rfl) rfl <| AM.guard_dt rfl rfl rfl (fun hc => ?_) (fun hc => ?_)
                · exact have h := iteT hc h; AM.qv (q_move rfl) rfl <| AM.guard_yes rfl rfl rfl <| bndE h fun v31 e12 h => AM.qv (t_index rfl rfl rfl e12 rfl rfl) rfl <| AM.guard_yes rfl rfl rfl <| AM.qv (n_field_rptr rfl rfl) rfl <| AM.guard_yes rfl rfl rfl <| AM.qv (n_field_rptr rfl rfl) rfl <| AM.guard_yes rfl rfl rfl <| AM.qv (n_load_rptr_part rfl rfl rfl rfl) rfl <| AM.guard_yes rfl rfl rfl <| AM.qv (q_move rfl) rfl <| AM.guard_yes rfl rfl rfl <| bndE h fun v32 e13 h => AM.qv (t_index rfl rfl rfl e13 rfl rfl) rfl <| AM.guard_yes rfl rfl rfl <| AM.qv (n_field_rptr rfl rfl) rfl <| AM.guard_yes rfl rfl rfl <| AM.qv (n_field_rptr rfl rfl) rfl <| AM.guard_yes rfl rfl rfl <| AM.qv (n_load_rptr_part rfl rfl rfl rfl) rfl <| AM.guard_yes rfl rfl rfl <| AM.qv (t_tne (g := ValueS.av) (X := v31.Prop_.Value) (Y := v32.Prop_.Value) rfl rfl rfl rfl rfl) rfl <| AM.qv (q_pick_t rfl rfl) rfl <| AM.qv (q_assign rfl) rfl <| AM.nil <| rN <| ATodo.stop <| ImpX.lq [0] ⟨decide (v31.Prop_.Value ≠ v32.Prop_.Value), h, rfl⟩ rfl rfl
                · exact have h := iteF hc h; AM.guard_no rfl rfl rfl rfl <| AM.guard_no rfl rfl rfl rfl <| AM.guard_no rfl rfl rfl rfl <| AM.guard_no rfl rfl rfl rfl <| AM.guard_no rfl rfl rfl rfl <| AM.guard_no rfl rfl rfl rfl <| AM.guard_no rfl rfl rfl rfl <| AM.guard_no rfl rfl rfl rfl <| AM.guard_no rfl rfl rfl rfl <| AM.guard_no rfl rfl rfl rfl <| AM.qv (q_pick_f rfl rfl) rfl <| AM.qv (q_assign rfl) rfl <| AM.nil <| rN <| ATodo.stop <| ImpX.lq [0] ⟨false, h, rfl⟩ rfl rfl
              · rintro σ' ⟨c30, h, rfl⟩
                unfold twin_joined_j3 at h
                refine ATodo.cond rfl (fun hc => ?_) (fun hc => ?_)
                · refine have h := iteT hc h; tSR <| rA rfl rfl <| rA rfl rfl <| rN <| ATodo.ret <| have h := outL h hA1; ?_
                  obtain rfl := Option.some.inj h
                  exact ImpX.arr (s := 4) 8 rfl fun b33 => ImpX.here ⟨_, .cons (.tmp _ _ rfl) (.cons (.tmp _ _ rfl) .nil), _, .cons .p0 .nil, ⟨b33, rfl, rfl⟩⟩
                · refine have h := iteFb hc h; tSR <| rM rfl rfl <| ARun.qv (q_geq rfl rfl) rfl <| rA rfl rfl <| rN <| ATodo.cut (fun σ' => ∃ (b34 : Bk) (l35 : List Cell), twin_joined_j4 l5 l6 l35 = some z1 ∧ σ' = ⟨99, [(0, .list 8 (l5.map Cell.av)), (1, .list 8 (l6.map Cell.av)), (6, .sl 8 b34 0 l35.length)], [(b34, .arr 8 (l35.map Cell.av))]⟩) ?_ ?_
                  · refine ATodo.cond_d rfl (fun hc => ?_) (fun hc => ?_)
                    · exact have h := iteT hc h; tR <| rM rfl rfl <| rM rfl rfl <| bndE h fun v36 e14 h => ARun.qv (t_index rfl rfl rfl e14 rfl rfl) rfl <| ARun.qv (q_load_rptr_agg rfl rfl rfl) rfl <| n_buildSliceL (xs := ([v36] : List Cell).map Cell.av) rfl rfl rfl rfl rfl rfl <| bndE h fun l37 e15 h => t_append (g := Cell.av) rfl rfl rfl rfl rfl rfl rfl rfl (.list _) e15 (fun _ => .p0) rfl fun b38 => rA rfl rfl <| rN <| ATodo.stop <| ImpX.lq [0] ⟨b38, l37, h, rfl⟩ rfl rfl
                    · exact have h := iteF hc h; tR <| rM rfl rfl <| rM rfl rfl <| bndE h fun v39 e16 h => ARun.qv (t_index rfl rfl rfl e16 rfl rfl) rfl <| ARun.qv (q_load_rptr_agg rfl rfl rfl) rfl <| n_buildSliceL (xs := ([v39] : List Cell).map Cell.av) rfl rfl rfl rfl rfl rfl <| bndE h fun l40 e17 h => t_append (g := Cell.av) rfl rfl rfl rfl rfl rfl rfl rfl (.list _) e17 (fun _ => .p0) rfl fun b41 => rA rfl rfl <| rN <| ATodo.stop <| ImpX.lq [0] ⟨b41, l40, h, rfl⟩ rfl rfl
                  · rintro σ' ⟨b34, l35, h, rfl⟩
                    unfold twin_joined_j4 at h
                    exact ATodo.blk <| ATodo.regionM (id := 14) (A := [0, 1, 0, 4, 3, 31]) 6 mixed rfl (by kernel_rfl) (by kernel_rfl) <| AM.qv (q_move rfl) rfl <| bndE h fun l42 e18 h => AM.qv (t_slice_list rfl rfl (.some _ _ _ rfl) .none rfl rfl e18) rfl <| AM.qv (q_move rfl) rfl <| bndE h fun l43 e19 h => AM.qv (t_slice_list rfl rfl (.some _ _ _ rfl) .none rfl rfl e19) rfl <| AM.qv (q_assign rfl) rfl <| AM.qv (q_assign rfl) rfl <| AM.nil <| rN <| ATodo.blk <| ATodo.stop <| ImpX.lq [0] ⟨b34, l42, l43, l35, h, rfl⟩ rfl rfl
        · rintro σ' ⟨b13, l11, l12, l14, h, rfl⟩
          unfold twin_joined_j2 at h
          refine ATodo.stop <| ?_
          obtain rfl := Option.some.inj h
          exact hJ1 _ _ rfl <| ImpX.lq [0] ⟨b13, rfl⟩ rfl rfl
      · refine have h := iteFb hc h; ATodo.exit rfl <| have h := outL h hA1; ?_
        unfold twin_joined_k5 at h
        refine tSR <| rM rfl rfl <| rM rfl rfl <| rM rfl rfl <| ARun.ghost <| ImpX.freeze .p0 <| ImpX.here <| n_buildSliceL (xs := [.sl 8 b7 0 l8.length, .list 8 (l5.map Cell.av), .list 8 (l6.map Cell.av)]) rfl rfl rfl rfl rfl rfl <| ARun.ghost <| ImpX.cox (s := 97) (av' := .list 1 (([l8, l5, l6] : List (List Cell)).map (encL 8 Cell.av))) rfl (CoX.listL (.cons (.co (Co.froT .p0)) (.cons .r (.cons .r .nil))) rfl rfl) <| ImpX.here <| bndE h fun v44 e20 h => t_call1 rfl (slices_Concat_Cell_Cell_c e20) (CoL.refl _) .nil (fun _ => rfl) rfl fun b45 => rA rfl rfl <| rA rfl rfl <| rN <| ATodo.ret <| ?_
        obtain rfl := Option.some.inj h
        exact ImpX.here ⟨_, .cons (.tmp _ _ rfl) (.cons (.tmp _ _ rfl) .nil), _, .cons .p0 .nil, ⟨b45, rfl, rfl⟩⟩

set_option maxHeartbeats 4000000 in
theorem twin_merged_c [GI : GTab] {p0x0 : List Cell} {p1x0 : List Cell} {r : (List Cell) × Int} (h : twin_merged p0x0 p1x0 = some r) : ACall Tryz.prog 64 [.list 8 (p0x0.map Cell.av), .list 8 (p1x0.map Cell.av)] [] (T1 (fun d_0 => [(d_0, .arr 8 (r.1.map Cell.av))]) (fun d_0 => .tup [.sl 8 d_0 0 r.1.length, I r.2])) := by
  unfold twin_merged at h
  refine ACall.lessH ?_
  refine ACall.bodyN Tryz.func64 rfl Tryz.ntmps64 Tryz.results64 rfl rfl ?_
  refine tSR <| rA rfl rfl <| rA rfl rfl <| rN <| tSR <| rM rfl rfl <| rM rfl rfl <| bndE h fun v1 e1 h => t_call1 rfl (twin_joined_c e1) (CoL.refl _) .nil (fun _ => rfl) rfl fun b2 => rM rfl rfl <| rX rfl rfl rfl <| rX rfl rfl rfl <| rA rfl rfl <| rA rfl rfl <| rN <| tS <| tS <| ATodo.cut (fun σ' => ∃ (c3 : Bool), twin_merged_j1 v1 c3 = some r ∧ σ' = ⟨25, [(6, .sl 8 b2 0 v1.1.length), (7, I v1.2), (20, .bool c3)], [(b2, .arr 8 (v1.1.map Cell.av))]⟩) ?_ ?_
  · refine tR <| rM rfl rfl <| ARun.qv (q_eql rfl rfl) rfl <| rM rfl rfl <| ARun.guard_dt rfl rfl rfl (fun hc => ?_) (fun hc => ?_)
    · rw [andTd hc] at h
      exact rM rfl rfl <| rY rfl rfl rfl <| ARun.qv (t_len_sl rfl) rfl <| rY rfl rfl rfl <| ARun.qv (q_gtr rfl rfl) rfl <| rT rfl rfl rfl <| rN <| ATodo.stop <| ImpX.lq [0] ⟨decide ((500 : Int) < (v1.1.length : Int)), h, rfl⟩ rfl rfl
    · rw [andFd hc] at h
      exact rG rfl rfl rfl rfl <| rG rfl rfl rfl rfl <| rE rfl rfl rfl <| rN <| ATodo.stop <| ImpX.lq [0] ⟨false, h, rfl⟩ rfl rfl
  · rintro σ' ⟨c3, h, rfl⟩
    unfold twin_merged_j1 at h
    refine ATodo.cut (fun σ' => ∃ (n4 : Int), twin_merged_j2 v1 n4 = some r ∧ σ' = ⟨25, [(6, .sl 8 b2 0 v1.1.length), (7, I n4)], [(b2, .arr 8 (v1.1.map Cell.av))]⟩) ?_ ?_
    · refine ATodo.cond rfl (fun hc => ?_) (fun hc => ?_)
      · exact have h := iteT hc h; tR <| rA rfl rfl <| rN <| ATodo.stop <| ImpX.lq [0] ⟨(2 : Int), h, rfl⟩ rfl rfl
      · exact have h := iteFb hc h; tK <| ATodo.stop <| ImpX.lq [0] ⟨v1.2, h, rfl⟩ rfl rfl
    · rintro σ' ⟨n4, h, rfl⟩
      unfold twin_merged_j2 at h
      refine tS <| tSR <| rM rfl rfl <| ARun.qv (q_neq rfl rfl) rfl <| rN <| ATodo.cond_d rfl (fun hc => ?_) (fun hc => ?_)
      · refine have h := iteT hc h; tSR <| rM rfl rfl <| rA rfl rfl <| rA rfl rfl <| rN <| ATodo.ret <| ?_
        obtain rfl := Option.some.inj h
        exact ImpX.arr (s := 4) 8 rfl fun b5 => ImpX.here ⟨_, .cons (.tmp _ _ rfl) (.cons (.tmp _ _ rfl) .nil), _, .cons .p0 .nil, ⟨b5, rfl, rfl⟩⟩
      · refine have h := iteF hc h; tK <| tSR <| rM rfl rfl <| rA rfl rfl <| rA rfl rfl <| rN <| ATodo.ret <| ?_
        obtain rfl := Option.some.inj h
        exact ImpX.here ⟨_, .cons (.tmp _ _ rfl) (.cons (.tmp _ _ rfl) .nil), _, .cons .p0 .nil, ⟨b2, rfl, rfl⟩⟩

set_option maxHeartbeats 4000000 in
theorem slices_Clone_Cell_Cell_c [GI : GTab] {p0x0 : List Cell} {r : (List Cell)} (h : slices_Clone_Cell_Cell p0x0 = some r) : ACall Tryz.prog 89 [.list 8 (p0x0.map Cell.av)] [] (T1 (fun d_0 => [(d_0, .arr 8 (r.map Cell.av))]) (fun d_0 => .sl 8 d_0 0 r.length)) := by
  unfold slices_Clone_Cell_Cell at h
  refine ACall.lessH ?_
  refine ACall.bodyN Tryz.func89 rfl Tryz.ntmps89 Tryz.results89 rfl rfl ?_
  refine ATodo.seq ?_
  refine ATodo.region ?_
  refine ARun.qv (q_assign rfl) rfl ?_
  refine ARun.nil ?_
  refine ATodo.seq ?_
  refine ATodo.seq ?_
  refine ATodo.region ?_
  refine ARun.qv (q_move rfl) rfl ?_
  refine r_eqnil rfl rfl rfl rfl (fun c hc => ?_)
  refine ARun.nil ?_
  refine ATodo.cond rfl (fun hT => ?_) (fun hF => ?_)
  · obtain rfl := app_nil_some h (List.map_eq_nil_iff.1 (hc hT))
    refine ATodo.seq ?_
    refine ATodo.region ?_
    refine ARun.qv (q_assign rfl) rfl ?_
    refine ARun.nil ?_
    refine ATodo.ret ?_
    refine ImpX.arr (s := 2) 8 rfl (fun b1 => ?_)
    exact ImpX.here ⟨_, .cons (.tmp _ _ rfl) .nil, _, .cons .here .nil, ⟨b1, rfl, rfl⟩⟩
  · refine ATodo.skip ?_
    refine ATodo.seq ?_
    refine ATodo.region ?_
    refine n_buildSlice (xs := ([] : List Cell).map Cell.av) rfl rfl rfl rfl rfl rfl (fun b2 => ?_)
    refine ARun.qv (q_move rfl) rfl ?_
    refine t_append (g := Cell.av) (Xs := []) rfl rfl rfl rfl rfl rfl rfl rfl (.list _) h (fun _ => .here) rfl (fun b3 => ?_)
    refine ARun.qv (q_assign rfl) rfl ?_
    refine ARun.nil ?_
    refine ATodo.ret ?_
    exact ImpX.here ⟨_, .cons (.tmp _ _ rfl) .nil, _, .cons .here .nil, ⟨b3, rfl, rfl⟩⟩

set_option maxHeartbeats 4000000 in
theorem twin_Take_c {p0x0 : TwinS} {p1x0 : List Change} {p2x0 : Stamp} {r : TwinS × Int} (h : twin_Take p0x0 p1x0 p2x0 = some r) : Pu Tryz.prog 36 [.agg [.list 8 (p0x0.Desired.map Cell.av), .list 8 (p0x0.Reported.map Cell.av)], .list 9 (p1x0.map Change.av), .agg [I p2x0.At, .str p2x0.By, I p2x0.No]] (.tup [.agg [.list 8 (r.1.Desired.map Cell.av), .list 8 (r.1.Reported.map Cell.av)], I r.2]) := by
  unfold twin_Take at h
  refine ACall.bodyN Tryz.func36 rfl Tryz.ntmps36 Tryz.results36 rfl rfl ?_
  refine tSR <| n_box rfl rfl rfl rfl fun b1 => n_box rfl rfl rfl rfl fun b2 => n_alloc rfl rfl rfl rfl fun b3 => rA rfl rfl <| rN <| tS <| tS <| ATodo.regionM (id := 1) (A := [0, 1, 0, 7, 0, 31, 63, 127, 255]) 9 mixed rfl (by kernel_rfl) (by kernel_rfl) <| AM.qv (q_load_ptr_all rfl rfl .p2 rfl) rfl <| bndE h fun v4 e1 h => AM.callp rfl (twin_twinFault_c e1) (CoL.refl _) rfl <| AM.qv (q_move rfl) rfl <| bndE h fun v5 e2 h => AM.callp rfl (twin_CheckChanges_c e2) (CoL.refl _) rfl <| AM.qv (q_load_ptr_all rfl rfl .p1 rfl) rfl <| bndE h fun v6 e3 h => AM.callp rfl (twin_stampFault_c e3) (CoL.refl _) rfl <| AM.buildSliceL (xs := ([v4, v5, v6] : List Int).map I) rfl rfl rfl rfl rfl rfl <| bndE h fun v7 e4 h => AM.callp rfl (base_First_c e4) (CoL.refl _) rfl <| AM.qv (q_assign rfl) rfl <| AM.nil <| rN <| tSR <| rM rfl rfl <| ARun.qv (q_neq rfl rfl) rfl <| rN <| ATodo.cond_d rfl (fun hc => ?_) (fun hc => ?_)
  · refine have h := iteT hc h; tSR <| ARun.qv (n_build rfl rfl rfl rfl rfl) rfl <| rM rfl rfl <| n_store_ptr rfl rfl rfl rfl .p0 rfl rfl <| rA rfl rfl <| rN <| ATodo.ret <| ?_
    obtain rfl := Option.some.inj h
    exact ImpX.nilBox (j := 0) 8 .p0 rfl rfl rfl <| ImpX.nilBox (j := 1) 8 .p0 rfl rfl rfl <| ImpX.here ⟨_, .cons (.all _ _ _ _ _ _ rfl .p0 TUnder.h TInfo.h rfl rfl) (.cons (.tmp _ _ rfl) .nil), rfl⟩
  · refine have h := iteF hc h; tK <| tS <| tSR <| rF rfl rfl rfl <| rL rfl rfl .p2 rfl rfl <| ARun.qv (q_makeFunc rfl) rfl <| bndE h fun v8 e5 h => r_callpB rfl (slices_ContainsFunc_Cell_Cell_c (fun e => twin_Take_1x_c e) e5) (.cons (.co (.refl _)) (.cons (.funcL _ _ _ (.cons (.boxL _ _ _ .p1 (.cons (.co (.refl _)) (.cons (.co (.refl _)) (.cons (.co (.refl _)) .nil)))) .nil)) .nil)) rfl rfl <| rN <| ATodo.cond rfl (fun hc => ?_) (fun hc => ?_)
    · refine have h := iteT hc h; tSR <| ARun.qv (n_build rfl rfl rfl rfl rfl) rfl <| n_store_ptr rfl rfl rfl rfl .p0 rfl rfl <| rA rfl rfl <| rN <| ATodo.ret <| ?_
      obtain rfl := Option.some.inj h
      exact ImpX.nilBox (j := 0) 8 .p0 rfl rfl rfl <| ImpX.nilBox (j := 1) 8 .p0 rfl rfl rfl <| ImpX.here ⟨_, .cons (.all _ _ _ _ _ _ rfl .p0 TUnder.h TInfo.h rfl rfl) (.cons (.tmp _ _ rfl) .nil), rfl⟩
    · refine have h := iteFb hc h; tK <| tSR <| rA rfl rfl <| rN <| tS <| tSR <| rM rfl rfl <| ARun.qv (t_len rfl) rfl <| rM rfl rfl <| rN <| ATodo.block <| ATodo.loopI (fun x : (List Cell) × Int => twin_Take_b1 p0x0 p1x0 p2x0 x.1 x.2) (fun x σ' => ∃ (b12 : Bk), σ' = ⟨64, [(3, .ptr b1 0), (5, .ptr b2 0), (6, .ptr b3 0), (9, .sl 8 b12 0 x.1.length), (31, .list 9 (p1x0.map Change.av)), (32, I (p1x0.length : Int)), (33, I x.2)], [(b1, .cells [.list 8 (p0x0.Desired.map Cell.av), .list 8 (p0x0.Reported.map Cell.av)]), (b2, .cells [I p2x0.At, .str p2x0.By, I p2x0.No]), (b3, .cells [.nil, .nil]), (b12, .arr 8 (x.1.map Cell.av))]⟩) h ?_ ?_
      · exact ImpX.arr (s := 9) 8 rfl fun b15 => ImpX.lq [3, 2, 1, 0] ⟨b15, rfl⟩ rfl rfl
      · intro x z1 σ' J1 hmk h hJ1 hA1
        obtain ⟨l13, n14⟩ := x
        obtain ⟨b12, rfl⟩ := hmk
        replace h : twin_Take_b1 p0x0 p1x0 p2x0 l13 n14 = some z1 := h
        unfold twin_Take_b1 at h
        refine tSR <| ARun.qv (q_lss rfl rfl) rfl <| rN <| tS <| ATodo.cond_d rfl (fun hc => ?_) (fun hc => ?_)
        · refine have h := iteT hc h; tK <| tS <| ATodo.block <| tSR <| bndE h fun v16 e6 h => ARun.qv (t_index rfl rfl rfl e6 rfl rfl) rfl <| ARun.qv (q_load_rptr_agg rfl rfl rfl) rfl <| n_alloc rfl rfl rfl rfl fun b17 => n_store_ptr rfl rfl rfl rfl .p0 rfl rfl <| rN <| tR <| rM rfl rfl <| rF rfl rfl rfl <| rL rfl rfl .p0 rfl rfl <| rF rfl rfl rfl <| ARun.qv (n_load_ptr_part rfl rfl .p0 rfl rfl) rfl <| ARun.qv (n_build rfl rfl rfl rfl rfl) rfl <| ARun.qv (q_load_ptr_all rfl rfl .p2 rfl) rfl <| ARun.qv (n_build rfl rfl rfl rfl rfl) rfl <| n_buildSliceL (xs := ([(⟨(⟨v16.Name, v16.To⟩ : PropS), p2x0⟩ : Cell)]).map Cell.av) rfl rfl rfl rfl rfl rfl <| bndE h fun l18 e7 h => t_append (g := Cell.av) rfl rfl rfl rfl rfl rfl rfl rfl (.list _) e7 (fun _ => .p4) rfl fun b19 => rA rfl rfl <| rN <| ATodo.blk <| tR <| ARun.qv (q_addw rfl rfl) rfl <| rM rfl rfl <| rN <| ATodo.stop <| ?_
          obtain rfl := Option.some.inj h
          exact hJ1 _ _ rfl <| ImpX.lq [1, 1, 1, 1] ⟨b19, rfl⟩ rfl rfl
        · refine have h := iteF hc h; ATodo.exit rfl <| have h := outL h hA1; ?_
          unfold twin_Take_k1 at h
          refine tSR <| rF rfl rfl rfl <| rL rfl rfl .p0 rfl rfl <| rM rfl rfl <| bndE h fun v20 e8 h => t_callL1 rfl (twin_merged_c e8) .nil (.cons (.co (.refl _)) (.cons (CoB.arrT .p3) .nil)) (fun _ => rfl) (fun _ => rfl) (fun _ => (.cons (NoS.arrT (fun _ => rfl)) .nil)) rfl fun b21 => rM rfl rfl <| rX rfl rfl rfl <| rX rfl rfl rfl <| rA rfl rfl <| rA rfl rfl <| rN <| tS <| tSR <| rM rfl rfl <| ARun.qv (q_neq rfl rfl) rfl <| rN <| ATodo.cond_d rfl (fun hc => ?_) (fun hc => ?_)
          · refine have h := iteT hc h; tSR <| ARun.qv (n_build rfl rfl rfl rfl rfl) rfl <| rM rfl rfl <| n_store_ptr rfl rfl rfl rfl .p3 rfl rfl <| rA rfl rfl <| rN <| ATodo.ret <| ?_
            obtain rfl := Option.some.inj h
            exact ImpX.nilBox (j := 0) 8 .p3 rfl rfl rfl <| ImpX.nilBox (j := 1) 8 .p3 rfl rfl rfl <| ImpX.here ⟨_, .cons (.all _ _ _ _ _ _ rfl .p3 TUnder.h TInfo.h rfl rfl) (.cons (.tmp _ _ rfl) .nil), rfl⟩
          · refine have h := iteF hc h; tK <| tSR <| rF rfl rfl rfl <| rL rfl rfl .p1 rfl rfl <| bndE h fun v22 e9 h => t_call1 rfl (slices_Clone_Cell_Cell_c e9) (CoL.refl _) .nil (fun _ => rfl) rfl fun b23 => rM rfl rfl <| ARun.qv (n_build rfl rfl rfl rfl rfl) rfl <| n_store_ptr rfl rfl rfl rfl .p4 rfl rfl <| rA rfl rfl <| rN <| ATodo.ret <| ?_
            obtain rfl := Option.some.inj h
            exact ImpX.freeze .p0 <| ImpX.coBox (j := 0) .p4 rfl (Co.froT .p0) rfl rfl <| ImpX.freeze .p1 <| ImpX.coBox (j := 1) .p4 rfl (Co.froT .p1) rfl rfl <| ImpX.here ⟨_, .cons (.all _ _ _ _ _ _ rfl .p4 TUnder.h TInfo.h rfl rfl) (.cons (.tmp _ _ rfl) .nil), rfl⟩

set_option maxHeartbeats 4000000 in
theorem Q_ChangesFault_c {p0x0 : List Change} {r : Int} (h : Q_ChangesFault p0x0 = some r) : Pu Tryz.prog 37 [.list 9 (p0x0.map Change.av)] (I r) := by
  unfold Q_ChangesFault at h
  refine ACall.bodyN Tryz.func37 rfl Tryz.ntmps37 Tryz.results37 rfl rfl ?_
  refine tSR <| rA rfl rfl <| rN <| tS <| tSR <| rM rfl rfl <| ARun.qv (t_len rfl) rfl <| ARun.qv (q_gtr rfl rfl) rfl <| rN <| ATodo.cond_d rfl (fun hc => ?_) (fun hc => ?_)
  · refine have h := iteT hc h; tSR <| rA rfl rfl <| rN <| ATodo.ret <| ?_
    obtain rfl := Option.some.inj h
    exact ImpX.here ⟨_, .cons (.tmp _ _ rfl) .nil, rfl⟩
  · refine have h := iteF hc h; tK <| tS <| tSR <| rM rfl rfl <| ARun.qv (t_len rfl) rfl <| rM rfl rfl <| rN <| ATodo.block <| ATodo.loopI (fun x : Int => Q_ChangesFault_b1 p0x0 x) (fun x σ' => σ' = ⟨58, [(0, .list 9 (p0x0.map Change.av)), (10, .list 9 (p0x0.map Change.av)), (11, I (p0x0.length : Int)), (12, I x)], []⟩) h ?_ ?_
    · exact ImpX.lq [] rfl rfl rfl
    · intro n2 z1 σ' J1 hmk h hJ1 hA1
      obtain rfl := hmk
      replace h : Q_ChangesFault_b1 p0x0 n2 = some z1 := h
      unfold Q_ChangesFault_b1 at h
      refine tSR <| ARun.qv (q_lss rfl rfl) rfl <| rN <| tS <| ATodo.cond_d rfl (fun hc => ?_) (fun hc => ?_)
      · refine have h := iteT hc h; tK <| tS <| ATodo.block <| tSR <| rM rfl rfl <| bndE h fun v3 e1 h => ARun.qv (t_index rfl rfl rfl e1 rfl rfl) rfl <| ARun.qv (q_load_rptr_agg rfl rfl rfl) rfl <| n_alloc rfl rfl rfl rfl fun b4 => rA rfl rfl <| n_store_ptr rfl rfl rfl rfl .p0 rfl rfl <| rN <| tS <| tSR <| rF rfl rfl rfl <| rL rfl rfl .p0 rfl rfl <| bndE h fun v5 e2 h => r_callp rfl (Q_PropName_c e2) (CoL.refl _) rfl <| ARun.qv (q_not rfl) rfl <| rN <| ATodo.cond rfl (fun hc => ?_) (fun hc => ?_)
        · refine have h := iteT hc h; tSR <| rA rfl rfl <| rN <| ATodo.ret <| have h := outL h hA1; ?_
          obtain rfl := Option.some.inj h
          exact ImpX.here ⟨_, .cons (.tmp _ _ rfl) .nil, rfl⟩
        · refine have h := iteFb hc h; tK <| tS <| tS <| ATodo.regionM (id := 8) (A := [0, 1, 3, 0, 8, 31, 63, 127, 0]) 9 mixed rfl (by kernel_rfl) (by kernel_rfl) <| AM.qv (n_field_ptr rfl rfl) rfl <| AM.qv (n_load_ptr_part rfl rfl .p0 rfl rfl) rfl <| bndE h fun v6 e3 h => AM.callp rfl (Q_ValueFault_c e3) (CoL.refl _) rfl <| AM.qv (n_field_ptr rfl rfl) rfl <| AM.qv (n_load_ptr_part rfl rfl .p0 rfl rfl) rfl <| bndE h fun v7 e4 h => AM.callp rfl (Q_ValueFault_c e4) (CoL.refl _) rfl <| AM.buildSliceL (xs := ([v6, v7] : List Int).map I) rfl rfl rfl rfl rfl rfl <| AM.qv (t_len rfl) rfl <| AM.qv (q_move rfl) rfl <| AM.nil <| rN <| ATodo.block <| ATodo.loopI (fun x : Int => Q_ChangesFault_b2 p0x0 n2 v3 v6 v7 x) (fun x σ' => σ' = ⟨58, [(0, .list 9 (p0x0.map Change.av)), (3, I n2), (4, .ptr b4 0), (10, .list 9 (p0x0.map Change.av)), (11, I (p0x0.length : Int)), (12, I n2), (27, .list 1 ([v6, v7].map I)), (28, I ([v6, v7].length : Int)), (29, I x)], [(b4, .cells [.str v3.Name, I v3.From.Kind, .bool v3.From.Flag, I v3.From.Number, .str v3.From.Words, I v3.To.Kind, .bool v3.To.Flag, I v3.To.Number, .str v3.To.Words])]⟩) h ?_ ?_
          · exact ImpX.lq [0] rfl rfl rfl
          · intro n9 z2 σ' J2 hmk h hJ2 hA2
            obtain rfl := hmk
            replace h : Q_ChangesFault_b2 p0x0 n2 v3 v6 v7 n9 = some z2 := h
            unfold Q_ChangesFault_b2 at h
            refine tSR <| ARun.qv (q_lss rfl rfl) rfl <| rN <| tS <| ATodo.cond_d rfl (fun hc => ?_) (fun hc => ?_)
            · refine have h := iteT hc h; tK <| tS <| ATodo.block <| tSR <| bndE h fun v10 e5 h => ARun.qv (t_index rfl rfl rfl e5 rfl rfl) rfl <| ARun.qv (q_load_rptr rfl rfl rfl) rfl <| rA rfl rfl <| rN <| tSR <| rM rfl rfl <| ARun.qv (q_neq rfl rfl) rfl <| rN <| ATodo.cond_d rfl (fun hc => ?_) (fun hc => ?_)
              · refine have h := iteT hc h; tSR <| rM rfl rfl <| rA rfl rfl <| rN <| ATodo.ret <| have h := outL h hA2; have h := outL h hA1; ?_
                obtain rfl := Option.some.inj h
                exact ImpX.here ⟨_, .cons (.tmp _ _ rfl) .nil, rfl⟩
              · refine have h := iteF hc h; tK <| ATodo.blk <| tR <| ARun.qv (q_addw rfl rfl) rfl <| rM rfl rfl <| rN <| ATodo.stop <| ?_
                obtain rfl := Option.some.inj h
                exact hJ2 _ _ rfl <| ImpX.lq [0] rfl rfl rfl
            · refine have h := iteF hc h; ATodo.exit rfl <| have h := outL h hA2; ?_
              unfold Q_ChangesFault_k2 at h
              refine ATodo.block <| tSR <| rF rfl rfl rfl <| ARun.qv (n_load_ptr_part rfl rfl .p0 rfl rfl) rfl <| rF rfl rfl rfl <| ARun.qv (n_load_ptr_part rfl rfl .p0 rfl rfl) rfl <| ARun.qv (t_teq (g := ValueS.av) (X := v3.From) (Y := v3.To) rfl rfl rfl rfl rfl) rfl <| rA rfl rfl <| rN <| ATodo.cond_d rfl (fun hc => ?_) (fun hc => ?_)
              · refine have h := iteT hc h; tSR <| rA rfl rfl <| rN <| ATodo.ret <| have h := outL h hA1; ?_
                obtain rfl := Option.some.inj h
                exact ImpX.here ⟨_, .cons (.tmp _ _ rfl) .nil, rfl⟩
              · refine have h := iteF hc h; tS <| ATodo.cut (fun σ' => ∃ (c11 : Bool), Q_ChangesFault_j1 n2 c11 = some z1 ∧ σ' = ⟨58, [(0, .list 9 (p0x0.map Change.av)), (10, .list 9 (p0x0.map Change.av)), (11, I (p0x0.length : Int)), (12, I n2), (43, .bool c11)], []⟩) ?_ ?_
                · refine ATodo.regionM (id := 16) (A := [0, 1, 3, 7, 15, 7, 7, 71, 231, 487, 999, 2047, 4095, 8191]) 14 mixed rfl (by kernel_rfl) (by kernel_rfl) <| AM.qv (q_move rfl) rfl <| AM.qv (q_gtr rfl rfl) rfl <| AM.qv (q_move rfl) rfl <| AM.guard_dt rfl rfl rfl (fun hc => ?_) (fun hc => ?_)
                  · exact have h := iteT hc h; AM.qv (n_field_ptr rfl rfl) rfl <| AM.guard_yes rfl rfl rfl <| AM.qv (q_load_ptr rfl rfl .p0 rfl) rfl <| AM.guard_yes rfl rfl rfl <| AM.qv (q_move rfl) rfl <| AM.guard_yes rfl rfl rfl <| AM.qv (q_move rfl) rfl <| AM.guard_yes rfl rfl rfl <| AM.qv (q_subw rfl rfl) rfl <| AM.guard_yes rfl rfl rfl <| bndE h fun v12 e6 h => AM.qv (t_index rfl rfl rfl e6 rfl rfl) rfl <| AM.guard_yes rfl rfl rfl <| AM.qv (n_field_rptr rfl rfl) rfl <| AM.guard_yes rfl rfl rfl <| AM.qv (q_load_rptr rfl rfl rfl) rfl <| AM.guard_yes rfl rfl rfl <| AM.qv (t_sleq rfl rfl) rfl <| AM.qv (q_pick_t rfl rfl) rfl <| AM.qv (q_assign rfl) rfl <| AM.nil <| rN <| ATodo.stop <| ImpX.lq [] ⟨Op.bytesLess v3.Name v12.Name || v3.Name == v12.Name, h, rfl⟩ rfl rfl
                  · exact have h := iteF hc h; AM.guard_no rfl rfl rfl rfl <| AM.guard_no rfl rfl rfl rfl <| AM.guard_no rfl rfl rfl rfl <| AM.guard_no rfl rfl rfl rfl <| AM.guard_no rfl rfl rfl rfl <| AM.guard_no rfl rfl rfl rfl <| AM.guard_no rfl rfl rfl rfl <| AM.guard_no rfl rfl rfl rfl <| AM.qv (q_pick_f rfl rfl) rfl <| AM.qv (q_assign rfl) rfl <| AM.nil <| rN <| ATodo.stop <| ImpX.lq [] ⟨false, h, rfl⟩ rfl rfl
                · rintro σ' ⟨c11, h, rfl⟩
                  unfold Q_ChangesFault_j1 at h
                  refine ATodo.cond rfl (fun hc => ?_) (fun hc => ?_)
                  · refine have h := iteT hc h; tSR <| rA rfl rfl <| rN <| ATodo.ret <| have h := outL h hA1; ?_
                    obtain rfl := Option.some.inj h
                    exact ImpX.here ⟨_, .cons (.tmp _ _ rfl) .nil, rfl⟩
                  · refine have h := iteFb hc h; tK <| ATodo.blk <| ATodo.blk <| tR <| ARun.qv (q_addw rfl rfl) rfl <| rM rfl rfl <| rN <| ATodo.stop <| ?_
                    obtain rfl := Option.some.inj h
                    exact hJ1 _ _ rfl <| ImpX.lq [] rfl rfl rfl
      · refine have h := iteF hc h; ATodo.exit rfl <| have h := outL h hA1; tSR <| rA rfl rfl <| rN <| ATodo.ret <| ?_
        obtain rfl := Option.some.inj h
        exact ImpX.here ⟨_, .cons (.tmp _ _ rfl) .nil, rfl⟩

set_option maxHeartbeats 4000000 in
theorem L_errs_c [GI : GTab] {p0x0 : List Int} {r : Int} (h : L_errs p0x0 = some r) : Pu Tryz.prog 11 [.list 1 (p0x0.map I)] (I r) := by
  unfold L_errs at h
  refine ACall.bodyN Tryz.func11 rfl Tryz.ntmps11 Tryz.results11 rfl rfl ?_
  refine tSR <| rA rfl rfl <| rN <| tS <| tSR <| rM rfl rfl <| ARun.qv (t_len rfl) rfl <| rM rfl rfl <| rN <| ATodo.block <| ATodo.loopI (fun x : Int => L_errs_b1 p0x0 x) (fun x σ' => σ' = ⟨15, [(5, .list 1 (p0x0.map I)), (6, I (p0x0.length : Int)), (7, I x)], []⟩) h ?_ ?_
  · exact ImpX.lq [] rfl rfl rfl
  · intro n2 z1 σ' J1 hmk h hJ1 hA1
    obtain rfl := hmk
    replace h : L_errs_b1 p0x0 n2 = some z1 := h
    unfold L_errs_b1 at h
    refine tSR <| ARun.qv (q_lss rfl rfl) rfl <| rN <| tS <| ATodo.cond_d rfl (fun hc => ?_) (fun hc => ?_)
    · refine have h := iteT hc h; tK <| tS <| ATodo.block <| tSR <| bndE h fun v3 e1 h => ARun.qv (t_index rfl rfl rfl e1 rfl rfl) rfl <| ARun.qv (q_load_rptr rfl rfl rfl) rfl <| rA rfl rfl <| rN <| tSR <| rM rfl rfl <| ARun.qv (q_neq rfl rfl) rfl <| rN <| ATodo.cond_d rfl (fun hc => ?_) (fun hc => ?_)
      · refine have h := iteT hc h; tSR <| rM rfl rfl <| rA rfl rfl <| rN <| ATodo.ret <| have h := outL h hA1; ?_
        obtain rfl := Option.some.inj h
        exact ImpX.here ⟨_, .cons (.tmp _ _ rfl) .nil, rfl⟩
      · refine have h := iteF hc h; tK <| ATodo.blk <| tR <| ARun.qv (q_addw rfl rfl) rfl <| rM rfl rfl <| rN <| ATodo.stop <| ?_
        obtain rfl := Option.some.inj h
        exact hJ1 _ _ rfl <| ImpX.lq [] rfl rfl rfl
    · refine have h := iteF hc h; ATodo.exit rfl <| have h := outL h hA1; tSR <| rA rfl rfl <| rN <| ATodo.ret <| ?_
      obtain rfl := Option.some.inj h
      exact ImpX.here ⟨_, .cons (.tmp _ _ rfl) .nil, rfl⟩

set_option maxHeartbeats 4000000 in
theorem Q_TakeOf_1x_c [GI : GTab] {p0x0 : Cell} {p1x0 : Stamp} {r : Bool} (h : Q_TakeOf_1x p0x0 p1x0 = r) : Pu Tryz.prog 93 [.agg [.str p0x0.Prop_.Name, I p0x0.Prop_.Value.Kind, .bool p0x0.Prop_.Value.Flag, I p0x0.Prop_.Value.Number, .str p0x0.Prop_.Value.Words, I p0x0.Stamp.At, .str p0x0.Stamp.By, I p0x0.Stamp.No], .rptr [I p1x0.At, .str p1x0.By, I p1x0.No]] (.bool r) := by
  unfold Q_TakeOf_1x at h
  refine ACall.bodyN Tryz.func93 rfl Tryz.ntmps93 Tryz.results93 rfl rfl ?_
  refine tSR <| n_box rfl rfl rfl rfl fun b1 => rA rfl rfl <| rN <| tSR <| rF rfl rfl rfl <| ARun.qv (n_load_ptr_part rfl rfl .p0 rfl rfl) rfl <| ARun.qv (q_load_rptr_agg rfl rfl rfl) rfl <| r_callp rfl (Q_StampOrder_c rfl) (CoL.refl _) rfl <| ARun.qv (q_geq rfl rfl) rfl <| rA rfl rfl <| rN <| ATodo.ret <| ?_
  obtain rfl := h
  exact ImpX.here ⟨_, .cons (.tmp _ _ rfl) .nil, rfl⟩

set_option maxHeartbeats 4000000 in
theorem Q_MergeOf_1x_c [GI : GTab] {p0x0 : Cell} {p1x0 : Cell} {r : Int} (h : Q_MergeOf_1x p0x0 p1x0 = r) : Pu Tryz.prog 69 [.agg [.str p0x0.Prop_.Name, I p0x0.Prop_.Value.Kind, .bool p0x0.Prop_.Value.Flag, I p0x0.Prop_.Value.Number, .str p0x0.Prop_.Value.Words, I p0x0.Stamp.At, .str p0x0.Stamp.By, I p0x0.Stamp.No], .agg [.str p1x0.Prop_.Name, I p1x0.Prop_.Value.Kind, .bool p1x0.Prop_.Value.Flag, I p1x0.Prop_.Value.Number, .str p1x0.Prop_.Value.Words, I p1x0.Stamp.At, .str p1x0.Stamp.By, I p1x0.Stamp.No]] (I r) := by
  unfold Q_MergeOf_1x at h
  refine ACall.bodyN Tryz.func69 rfl Tryz.ntmps69 Tryz.results69 rfl rfl ?_
  refine tSR <| n_box rfl rfl rfl rfl fun b1 => n_box rfl rfl rfl rfl fun b2 => rA rfl rfl <| rN <| tSR <| rF rfl rfl rfl <| ARun.qv (n_load_ptr_part rfl rfl .p1 rfl rfl) rfl <| rF rfl rfl rfl <| ARun.qv (n_load_ptr_part rfl rfl .p0 rfl rfl) rfl <| r_callp rfl (Q_StampOrder_c rfl) (CoL.refl _) rfl <| rA rfl rfl <| rN <| ATodo.ret <| ?_
  obtain rfl := h
  exact ImpX.here ⟨_, .cons (.tmp _ _ rfl) .nil, rfl⟩

set_option maxHeartbeats 4000000 in
theorem Q_MergeOf_2x_c [GI : GTab] {p0x0 : Cell} {p1x0 : Cell} {r : Int} (h : Q_MergeOf_2x p0x0 p1x0 = r) : Pu Tryz.prog 72 [.agg [.str p0x0.Prop_.Name, I p0x0.Prop_.Value.Kind, .bool p0x0.Prop_.Value.Flag, I p0x0.Prop_.Value.Number, .str p0x0.Prop_.Value.Words, I p0x0.Stamp.At, .str p0x0.Stamp.By, I p0x0.Stamp.No], .agg [.str p1x0.Prop_.Name, I p1x0.Prop_.Value.Kind, .bool p1x0.Prop_.Value.Flag, I p1x0.Prop_.Value.Number, .str p1x0.Prop_.Value.Words, I p1x0.Stamp.At, .str p1x0.Stamp.By, I p1x0.Stamp.No]] (I r) := by
  unfold Q_MergeOf_2x at h
  refine ACall.bodyN Tryz.func72 rfl Tryz.ntmps72 Tryz.results72 rfl rfl ?_
  refine tSR <| n_box rfl rfl rfl rfl fun b1 => n_box rfl rfl rfl rfl fun b2 => rA rfl rfl <| rN <| tSR <| rF rfl rfl rfl <| rF rfl rfl rfl <| rL rfl rfl .p1 rfl rfl <| rF rfl rfl rfl <| rF rfl rfl rfl <| rL rfl rfl .p0 rfl rfl <| r_callp rfl (strings_Compare_c rfl) (CoL.refl _) rfl <| rA rfl rfl <| rN <| ATodo.ret <| ?_
  obtain rfl := h
  exact ImpX.here ⟨_, .cons (.tmp _ _ rfl) .nil, rfl⟩

set_option maxHeartbeats 4000000 in
theorem slices_SortFunc_Cell_Cell_k : SortK Tryz.prog 71 8 := ⟨fun enc hk h1 cf hO g cb blk off cap d w eg hc hH hb hs => AnyQ.slices_SortFunc_eq Tryz.sortF71 8 Tryz.isAgg49 Tryz.sizeOf49 enc hk h1 cf hO g cb blk off cap d w eg hc hH hb hs, fun p cap fv w => AnyF.slices_SortFunc_none Tryz.sortF71 p cap fv w⟩
theorem slices_SortFunc_Cell_Cell_c [GI : GTab] {b_0 : Bk} {p0x0 : List Cell} {fnb : Cell → Cell → Option Int} {fnb_F : FuncId} [IsFn Tryz.prog fnb_F] {fnb_C : List AV} (fnb_h : ∀ {y0 y1 : _} {u : Int}, fnb y0 y1 = some u → @Pu strongT Tryz.prog fnb_F (Cell.av y0 :: Cell.av y1 :: fnb_C) (I u)) {r : (List Cell)} (h : slices_SortFunc_Cell_Cell p0x0 fnb = some r) : ACall Tryz.prog 71 [.sl 8 b_0 0 p0x0.length, .func (.func fnb_F) fnb_C] [(b_0, .arr 8 (p0x0.map Cell.av))] (T0 [(b_0, .arr 8 (r.map Cell.av))] (.tup [])) :=
  sort_acall (fn := fnb) slices_SortFunc_Cell_Cell_k rfl @fnb_h (fun _ => rfl) h

set_option maxHeartbeats 4000000 in
theorem Q_MergeOf_c [GI : GTab] {p0x0 : List Cell} {p1x0 : List Cell} {r : (List Cell) × Int} (h : Q_MergeOf p0x0 p1x0 = some r) : ACall Tryz.prog 26 [.list 8 (p0x0.map Cell.av), .list 8 (p1x0.map Cell.av)] [] (T1 (fun d_0 => [(d_0, .arr 8 (r.1.map Cell.av))]) (fun d_0 => .tup [.sl 8 d_0 0 r.1.length, I r.2])) := by
  unfold Q_MergeOf at h
  refine ACall.lessH ?_
  refine ACall.bodyN Tryz.func26 rfl Tryz.ntmps26 Tryz.results26 rfl rfl ?_
  refine tSR <| rA rfl rfl <| rA rfl rfl <| rN <| tSR <| rM rfl rfl <| rM rfl rfl <| n_buildSliceL (xs := ([p0x0, p1x0] : List (List Cell)).map (encL 8 Cell.av)) rfl rfl rfl rfl rfl rfl <| bndE h fun v1 e1 h => t_call1 rfl (slices_Concat_Cell_Cell_c e1) (CoL.refl _) .nil (fun _ => rfl) rfl fun b2 => rA rfl rfl <| rN <| tSR <| rM rfl rfl <| bndE h fun v3 e2 h => t_call0 rfl (slices_SortStableFunc_Cell_Cell_c (fun e => Q_MergeOf_1x_c (Option.some.inj e)) (lenOk_f e2)) (CoL.refl _) (.cons .p0 .nil) rfl rfl <| ARun.ghost <| ImpX.eqs (s := 6) (av' := .sl 8 b2 0 v3.length) rfl (congrArg (AV.sl 8 b2 0) (lenOk_l e2)) <| ImpX.here <| ARun.ghost <| ImpX.eqs (s := 18) (av' := .sl 8 b2 0 v3.length) rfl (congrArg (AV.sl 8 b2 0) (lenOk_l e2)) <| ImpX.here <| ARun.ghost <| ImpX.eqs (s := 19) (av' := .sl 8 b2 0 v3.length) rfl (congrArg (AV.sl 8 b2 0) (lenOk_l e2)) <| ImpX.here <| rN <| tSR <| t_makeMap rfl fun b4 => rA rfl rfl <| rN <| tS <| tSR <| rM rfl rfl <| ARun.qv (t_len_sl rfl) rfl <| rM rfl rfl <| rN <| ATodo.block <| ATodo.loopI (fun x : (List (Str × Cell)) × Int => Q_MergeOf_b1 v3 x.1 x.2) (fun x σ' => σ' = ⟨72, [(7, .mref b4), (22, .sl 8 b2 0 v3.length), (23, I (v3.length : Int)), (24, I x.2)], [(b4, .mp (x.1.map (fun e => (AV.str e.1, Cell.av e.2)))), (b2, .arr 8 (v3.map Cell.av))]⟩) h ?_ ?_
  · exact ImpX.lq [0, 0] rfl rfl rfl
  · intro x z1 σ' J1 hmk h hJ1 hA1
    obtain ⟨l7, n8⟩ := x
    obtain rfl := hmk
    replace h : Q_MergeOf_b1 v3 l7 n8 = some z1 := h
    unfold Q_MergeOf_b1 at h
    refine tSR <| ARun.qv (q_lss rfl rfl) rfl <| rN <| tS <| ATodo.cond_d rfl (fun hc => ?_) (fun hc => ?_)
    · refine have h := iteT hc h; tK <| tS <| ATodo.block <| tSR <| bndE h fun v9 e3 h => ARun.qv (t_index_sl rfl rfl rfl e3) rfl <| ARun.qv (t_load_aptr_agg (g := Cell.av) rfl rfl (.inl .p1) rfl e3 rfl) rfl <| n_alloc rfl rfl rfl rfl fun b10 => n_store_ptr rfl rfl rfl rfl .p0 rfl rfl <| rN <| tS <| tSR <| rM rfl rfl <| rF rfl rfl rfl <| rF rfl rfl rfl <| rL rfl rfl .p0 rfl rfl <| bndE h fun v11 e4 h => ARun.qv (t_lookup2 (gk := AV.str) (gv := Cell.av) (M := l7) (key := v9.Prop_.Name) (Z := (⟨(⟨[], (⟨(0 : Int), false, (0 : Int), []⟩ : ValueS)⟩ : PropS), (⟨(0 : Int), [], (0 : Int)⟩ : Stamp)⟩ : Cell)) rfl rfl .p1 rfl rfl rfl e4 rfl) rfl <| rM rfl rfl <| rX rfl rfl rfl <| rX rfl rfl rfl <| n_alloc rfl rfl rfl rfl fun b12 => n_store_ptr rfl rfl rfl rfl .p0 rfl rfl <| rA rfl rfl <| rN <| tS <| ATodo.cut (fun σ' => ∃ (c13 : Bool), Q_MergeOf_j1 l7 n8 v9 c13 = some z1 ∧ σ' = ⟨72, [(7, .mref b4), (9, .ptr b10 0), (22, .sl 8 b2 0 v3.length), (23, I (v3.length : Int)), (24, I n8), (49, .bool c13)], [(b4, .mp (l7.map (fun e => (AV.str e.1, Cell.av e.2)))), (b10, .cells [.str v9.Prop_.Name, I v9.Prop_.Value.Kind, .bool v9.Prop_.Value.Flag, I v9.Prop_.Value.Number, .str v9.Prop_.Value.Words, I v9.Stamp.At, .str v9.Stamp.By, I v9.Stamp.No]), (b2, .arr 8 (v3.map Cell.av))]⟩) ?_ ?_
      · refine tR <| rM rfl rfl <| rM rfl rfl <| ARun.guard rfl rfl rfl (fun hc => ?_) (fun hc => ?_)
        · rw [andTb hc] at h
          refine rF rfl rfl rfl <| rY rfl rfl rfl <| ARun.qv (n_load_ptr_part rfl rfl .p0 rfl rfl) rfl <| rY rfl rfl rfl <| rF rfl rfl rfl <| rY rfl rfl rfl <| ARun.qv (n_load_ptr_part rfl rfl .p1 rfl rfl) rfl <| rY rfl rfl rfl <| r_callp rfl (Q_StampOrder_c rfl) (CoL.refl _) rfl <| rY rfl rfl rfl <| ARun.qv (q_eql rfl rfl) rfl <| rT rfl rfl rfl <| rM rfl rfl <| ARun.guard_dt rfl rfl rfl (fun hc => ?_) (fun hc => ?_)
          · rw [andTd hc] at h
            exact ARun.qv (q_load_ptr_all rfl rfl .p0 rfl) rfl <| rY rfl rfl rfl <| ARun.qv (q_load_ptr_all rfl rfl .p1 rfl) rfl <| rY rfl rfl rfl <| ARun.qv (t_tne (g := Cell.av) (X := v11.1) (Y := v9) rfl rfl rfl rfl rfl) rfl <| rT rfl rfl rfl <| rN <| ATodo.stop <| ImpX.lq [2, 1, 1] ⟨decide (v11.1 ≠ v9), h, rfl⟩ rfl rfl
          · rw [andFd hc] at h
            exact rG rfl rfl rfl rfl <| rG rfl rfl rfl rfl <| rE rfl rfl rfl <| rN <| ATodo.stop <| ImpX.lq [2, 1, 1] ⟨false, h, rfl⟩ rfl rfl
        · rw [andFb hc] at h
          exact rG rfl rfl rfl rfl <| rG rfl rfl rfl rfl <| rG rfl rfl rfl rfl <| rG rfl rfl rfl rfl <| rG rfl rfl rfl rfl <| rE rfl rfl rfl <| rM rfl rfl <| rG rfl rfl rfl rfl <| rG rfl rfl rfl rfl <| rG rfl rfl rfl rfl <| rE rfl rfl rfl <| rN <| ATodo.stop <| ImpX.lq [2, 1, 1] ⟨false, h, rfl⟩ rfl rfl
      · rintro σ' ⟨c13, h, rfl⟩
        unfold Q_MergeOf_j1 at h
        refine ATodo.cond rfl (fun hc => ?_) (fun hc => ?_)
        · refine have h := iteT hc h; tSR <| rA rfl rfl <| rA rfl rfl <| rN <| ATodo.ret <| have h := outL h hA1; ?_
          obtain rfl := Option.some.inj h
          exact ImpX.arr (s := 4) 8 rfl fun b14 => ImpX.here ⟨_, .cons (.tmp _ _ rfl) (.cons (.tmp _ _ rfl) .nil), _, .cons .p0 .nil, ⟨b14, rfl, rfl⟩⟩
        · refine have h := iteFb hc h; tK <| tR <| rM rfl rfl <| rF rfl rfl rfl <| rF rfl rfl rfl <| rL rfl rfl .p1 rfl rfl <| ARun.qv (q_load_ptr_all rfl rfl .p1 rfl) rfl <| t_mapUpdate (gk := AV.str) (gv := Cell.av) (M := l7) (key := v9.Prop_.Name) (v := v9) rfl rfl rfl rfl .p0 <| rN <| ATodo.blk <| tR <| ARun.qv (q_addw rfl rfl) rfl <| rM rfl rfl <| rN <| ATodo.stop <| ?_
          obtain rfl := Option.some.inj h
          exact hJ1 _ _ rfl <| ImpX.lq [0, 1] rfl rfl rfl
    · refine have h := iteF hc h; ATodo.exit rfl <| have h := outL h hA1; tSR <| rA rfl rfl <| rN <| tS <| tSR <| rM rfl rfl <| t_range (M := l7) (enc := (fun e => (AV.str e.1, Cell.av e.2))) rfl (fun _ _ => .p0) rfl fun b15 Le5 ce5 hLe5 hIe5 => rN <| ATodo.block <| ATodo.loopMap (fun e (x : (List Cell)) => Q_MergeOf_b2 e x) (fun x : (List Cell) => Q_MergeOf_f2 x) (fun R x σ' => ∃ (b18 : Bk) (s2m : List Nat), MIter Le5 ce5 s2m (R.map (fun e => (AV.str e.1, Cell.av e.2))) ∧ σ' = ⟨72, [(12, .sl 8 b18 0 x.length), (57, .ptr b15 0)], [(b15, .mit b4 ce5 s2m), (b4, .mpb Le5 ce5), (b18, .arr 8 (x.map Cell.av))]⟩) h ?_ ?_
      · exact ImpX.arr (s := 12) 8 rfl fun b20 => ImpX.lq [1, 1, 0] ⟨b20, [], hIe5, rfl⟩ rfl rfl
      · intro R2 l19 σ' J2 hmk hH2 hK2
        obtain ⟨b18, s2m, hI2m, rfl⟩ := hmk
        refine tSR <| t_next rfl hI2m .p1 (fun _ => .p0) rfl (fun hN => ?_) (fun v2m R' sv2m hP hlen hIv2m hCv2m => ?_)
        · have h := nilL hH2 hN
          replace h : Q_MergeOf_f2 l19 = _ := h
          unfold Q_MergeOf_f2 at h
          refine ARun.ghost <| ImpX.mpDone hLe5 .p1 <| ImpX.here <| rX rfl rfl rfl <| rN <| tS <| ATodo.cond_f rfl <| ATodo.exit rfl <| tSR <| rM rfl rfl <| bndE h fun v21 e6 h => t_call0 rfl (slices_SortFunc_Cell_Cell_c (fun e => Q_MergeOf_2x_c (GI := strongT) (Option.some.inj e)) (lenOk_f e6)) (CoL.refl _) (.cons .p2 .nil) rfl rfl <| ARun.ghost <| ImpX.eqs (s := 12) (av' := .sl 8 b18 0 v21.length) rfl (congrArg (AV.sl 8 b18 0) (lenOk_l e6)) <| ImpX.here <| ARun.ghost <| ImpX.eqs (s := 66) (av' := .sl 8 b18 0 v21.length) rfl (congrArg (AV.sl 8 b18 0) (lenOk_l e6)) <| ImpX.here <| rN <| tS <| tSR <| rM rfl rfl <| ARun.qv (t_len_sl rfl) rfl <| ARun.qv (q_gtr rfl rfl) rfl <| rN <| ATodo.cond_d rfl (fun hc => ?_) (fun hc => ?_)
          · refine have h := iteT hc h; tSR <| rA rfl rfl <| rA rfl rfl <| rN <| ATodo.ret <| ?_
            obtain rfl := Option.some.inj h
            exact ImpX.arr (s := 4) 8 rfl fun b22 => ImpX.here ⟨_, .cons (.tmp _ _ rfl) (.cons (.tmp _ _ rfl) .nil), _, .cons .p0 .nil, ⟨b22, rfl, rfl⟩⟩
          · refine have h := iteF hc h; tK <| tSR <| rM rfl rfl <| rA rfl rfl <| rA rfl rfl <| rN <| ATodo.ret <| ?_
            obtain rfl := Option.some.inj h
            exact ImpX.here ⟨_, .cons (.tmp _ _ rfl) (.cons (.tmp _ _ rfl) .nil), _, .cons .p0 .nil, ⟨b18, rfl, rfl⟩⟩
        · obtain ⟨z2, h, hN2, hA2⟩ := stepL hH2 hP
          replace h : Q_MergeOf_b2 v2m l19 = some z2 := h
          unfold Q_MergeOf_b2 at h
          have hJ2 := fun y σ' (e : z2 = .inl y) hi => hK2 R' y σ' hlen (hN2 y e) hi
          clear hN2 hP hK2 hH2
          refine rX rfl rfl rfl <| rN <| tS <| ATodo.cond_t rfl <| tK <| ATodo.block <| tSR <| ARun.qv (t_entry rfl .p0 .p1 hCv2m rfl rfl) rfl <| rX rfl rfl rfl <| n_alloc rfl rfl rfl rfl fun b23 => n_store_ptr rfl rfl rfl rfl .p0 rfl rfl <| rN <| tR <| rM rfl rfl <| ARun.qv (q_load_ptr_all rfl rfl .p0 rfl) rfl <| n_buildSliceL (xs := ([v2m.2] : List Cell).map Cell.av) rfl rfl rfl rfl rfl rfl <| bndE h fun l24 e7 h => t_append (g := Cell.av) rfl rfl rfl rfl rfl rfl rfl rfl (.list _) e7 (fun _ => .p3) rfl fun b25 => rA rfl rfl <| rN <| ATodo.blk <| ATodo.stop <| ?_
          obtain rfl := Option.some.inj h
          exact hJ2 _ _ rfl <| ImpX.lq [1, 1, 1] ⟨b25, sv2m, hIv2m, rfl⟩ rfl rfl

set_option maxHeartbeats 4000000 in
theorem Q_TakeOf_c [GI : GTab] {p0x0 : TwinS} {p1x0 : List Change} {p2x0 : Stamp} {r : TwinS × Int} (h : Q_TakeOf p0x0 p1x0 p2x0 = some r) : Pu Tryz.prog 39 [.agg [.list 8 (p0x0.Desired.map Cell.av), .list 8 (p0x0.Reported.map Cell.av)], .list 9 (p1x0.map Change.av), .agg [I p2x0.At, .str p2x0.By, I p2x0.No]] (.tup [.agg [.list 8 (r.1.Desired.map Cell.av), .list 8 (r.1.Reported.map Cell.av)], I r.2]) := by
  unfold Q_TakeOf at h
  refine ACall.bodyN Tryz.func39 rfl Tryz.ntmps39 Tryz.results39 rfl rfl ?_
  refine tSR <| n_box rfl rfl rfl rfl fun b1 => n_box rfl rfl rfl rfl fun b2 => n_alloc rfl rfl rfl rfl fun b3 => rA rfl rfl <| rN <| tS <| tSR <| rF rfl rfl rfl <| rL rfl rfl .p2 rfl rfl <| ARun.qv (q_makeFunc rfl) rfl <| bndE h fun v4 e1 h => r_callpB rfl (slices_ContainsFunc_Cell_Cell_c (fun e => Q_TakeOf_1x_c (Option.some.inj e)) e1) (.cons (.co (.refl _)) (.cons (.funcL _ _ _ (.cons (.boxL _ _ _ .p1 (.cons (.co (.refl _)) (.cons (.co (.refl _)) (.cons (.co (.refl _)) .nil)))) .nil)) .nil)) rfl rfl <| rN <| ATodo.cond rfl (fun hc => ?_) (fun hc => ?_)
  · refine have h := iteT hc h; tSR <| ARun.qv (n_build rfl rfl rfl rfl rfl) rfl <| n_store_ptr rfl rfl rfl rfl .p0 rfl rfl <| rA rfl rfl <| rN <| ATodo.ret <| ?_
    obtain rfl := Option.some.inj h
    exact ImpX.nilBox (j := 0) 8 .p0 rfl rfl rfl <| ImpX.nilBox (j := 1) 8 .p0 rfl rfl rfl <| ImpX.here ⟨_, .cons (.all _ _ _ _ _ _ rfl .p0 TUnder.h TInfo.h rfl rfl) (.cons (.tmp _ _ rfl) .nil), rfl⟩
  · refine have h := iteFb hc h; tK <| tSR <| rA rfl rfl <| rN <| tS <| tSR <| rM rfl rfl <| ARun.qv (t_len rfl) rfl <| rM rfl rfl <| rN <| ATodo.block <| ATodo.loopI (fun x : (List Cell) × Int => Q_TakeOf_b1 p0x0 p1x0 p2x0 x.1 x.2) (fun x σ' => ∃ (b8 : Bk), σ' = ⟨51, [(3, .ptr b1 0), (5, .ptr b2 0), (6, .ptr b3 0), (8, .sl 8 b8 0 x.1.length), (18, .list 9 (p1x0.map Change.av)), (19, I (p1x0.length : Int)), (20, I x.2)], [(b1, .cells [.list 8 (p0x0.Desired.map Cell.av), .list 8 (p0x0.Reported.map Cell.av)]), (b2, .cells [I p2x0.At, .str p2x0.By, I p2x0.No]), (b3, .cells [.nil, .nil]), (b8, .arr 8 (x.1.map Cell.av))]⟩) h ?_ ?_
    · exact ImpX.arr (s := 8) 8 rfl fun b11 => ImpX.lq [3, 2, 1, 0] ⟨b11, rfl⟩ rfl rfl
    · intro x z1 σ' J1 hmk h hJ1 hA1
      obtain ⟨l9, n10⟩ := x
      obtain ⟨b8, rfl⟩ := hmk
      replace h : Q_TakeOf_b1 p0x0 p1x0 p2x0 l9 n10 = some z1 := h
      unfold Q_TakeOf_b1 at h
      refine tSR <| ARun.qv (q_lss rfl rfl) rfl <| rN <| tS <| ATodo.cond_d rfl (fun hc => ?_) (fun hc => ?_)
      · refine have h := iteT hc h; tK <| tS <| ATodo.block <| tSR <| bndE h fun v12 e2 h => ARun.qv (t_index rfl rfl rfl e2 rfl rfl) rfl <| ARun.qv (q_load_rptr_agg rfl rfl rfl) rfl <| n_alloc rfl rfl rfl rfl fun b13 => n_store_ptr rfl rfl rfl rfl .p0 rfl rfl <| rN <| tR <| rM rfl rfl <| rF rfl rfl rfl <| rL rfl rfl .p0 rfl rfl <| rF rfl rfl rfl <| ARun.qv (n_load_ptr_part rfl rfl .p0 rfl rfl) rfl <| ARun.qv (n_build rfl rfl rfl rfl rfl) rfl <| ARun.qv (q_load_ptr_all rfl rfl .p2 rfl) rfl <| ARun.qv (n_build rfl rfl rfl rfl rfl) rfl <| n_buildSliceL (xs := ([(⟨(⟨v12.Name, v12.To⟩ : PropS), p2x0⟩ : Cell)]).map Cell.av) rfl rfl rfl rfl rfl rfl <| bndE h fun l14 e3 h => t_append (g := Cell.av) rfl rfl rfl rfl rfl rfl rfl rfl (.list _) e3 (fun _ => .p4) rfl fun b15 => rA rfl rfl <| rN <| ATodo.blk <| tR <| ARun.qv (q_addw rfl rfl) rfl <| rM rfl rfl <| rN <| ATodo.stop <| ?_
        obtain rfl := Option.some.inj h
        exact hJ1 _ _ rfl <| ImpX.lq [1, 1, 1, 1] ⟨b15, rfl⟩ rfl rfl
      · refine have h := iteF hc h; ATodo.exit rfl <| have h := outL h hA1; ?_
        unfold Q_TakeOf_k1 at h
        refine tSR <| rF rfl rfl rfl <| rL rfl rfl .p0 rfl rfl <| rM rfl rfl <| bndE h fun v16 e4 h => t_callL1 rfl (Q_MergeOf_c e4) .nil (.cons (.co (.refl _)) (.cons (CoB.arrT .p3) .nil)) (fun _ => rfl) (fun _ => rfl) (fun _ => (.cons (NoS.arrT (fun _ => rfl)) .nil)) rfl fun b17 => rM rfl rfl <| rX rfl rfl rfl <| rX rfl rfl rfl <| rA rfl rfl <| rA rfl rfl <| rN <| tS <| tSR <| rM rfl rfl <| ARun.qv (q_neq rfl rfl) rfl <| rN <| ATodo.cond_d rfl (fun hc => ?_) (fun hc => ?_)
        · refine have h := iteT hc h; tSR <| ARun.qv (n_build rfl rfl rfl rfl rfl) rfl <| rM rfl rfl <| n_store_ptr rfl rfl rfl rfl .p3 rfl rfl <| rA rfl rfl <| rN <| ATodo.ret <| ?_
          obtain rfl := Option.some.inj h
          exact ImpX.nilBox (j := 0) 8 .p3 rfl rfl rfl <| ImpX.nilBox (j := 1) 8 .p3 rfl rfl rfl <| ImpX.here ⟨_, .cons (.all _ _ _ _ _ _ rfl .p3 TUnder.h TInfo.h rfl rfl) (.cons (.tmp _ _ rfl) .nil), rfl⟩
        · refine have h := iteF hc h; tK <| tSR <| rF rfl rfl rfl <| rL rfl rfl .p1 rfl rfl <| bndE h fun v18 e5 h => t_call1 rfl (slices_Clone_Cell_Cell_c e5) (CoL.refl _) .nil (fun _ => rfl) rfl fun b19 => rM rfl rfl <| ARun.qv (n_build rfl rfl rfl rfl rfl) rfl <| n_store_ptr rfl rfl rfl rfl .p4 rfl rfl <| rA rfl rfl <| rN <| ATodo.ret <| ?_
          obtain rfl := Option.some.inj h
          exact ImpX.freeze .p0 <| ImpX.coBox (j := 0) .p4 rfl (Co.froT .p0) rfl rfl <| ImpX.freeze .p1 <| ImpX.coBox (j := 1) .p4 rfl (Co.froT .p1) rfl rfl <| ImpX.here ⟨_, .cons (.all _ _ _ _ _ _ rfl .p4 TUnder.h TInfo.h rfl rfl) (.cons (.tmp _ _ rfl) .nil), rfl⟩

set_option maxHeartbeats 4000000 in
theorem slices_Equal_Cell_Cell_c [GI : GTab] {p0x0 : List Cell} {p1x0 : List Cell} {r : Bool} (h : slices_Equal_Cell_Cell p0x0 p1x0 = some r) : Pu Tryz.prog 16 [.list 8 (p0x0.map Cell.av), .list 8 (p1x0.map Cell.av)] (.bool r) := by
  unfold slices_Equal_Cell_Cell at h
  refine ACall.bodyN Tryz.func16 rfl Tryz.ntmps16 Tryz.results16 rfl rfl ?_
  refine tSR <| rA rfl rfl <| rN <| tS <| tSR <| rM rfl rfl <| ARun.qv (t_len rfl) rfl <| rM rfl rfl <| ARun.qv (t_len rfl) rfl <| ARun.qv (q_neq rfl rfl) rfl <| rN <| ATodo.cond_d rfl (fun hc => ?_) (fun hc => ?_)
  · refine have h := iteT hc h; tSR <| rA rfl rfl <| rN <| ATodo.ret <| ?_
    obtain rfl := Option.some.inj h
    exact ImpX.here ⟨_, .cons (.tmp _ _ rfl) .nil, rfl⟩
  · refine have h := iteF hc h; tK <| tS <| tSR <| rM rfl rfl <| ARun.qv (t_len rfl) rfl <| rM rfl rfl <| rN <| ATodo.block <| ATodo.loopI (fun x : Int => slices_Equal_Cell_Cell_b1 p0x0 p1x0 x) (fun x σ' => σ' = ⟨26, [(0, .list 8 (p0x0.map Cell.av)), (1, .list 8 (p1x0.map Cell.av)), (12, I (p0x0.length : Int)), (13, I x)], []⟩) h ?_ ?_
    · exact ImpX.lq [] rfl rfl rfl
    · intro n2 z1 σ' J1 hmk h hJ1 hA1
      obtain rfl := hmk
      replace h : slices_Equal_Cell_Cell_b1 p0x0 p1x0 n2 = some z1 := h
      unfold slices_Equal_Cell_Cell_b1 at h
      refine tSR <| ARun.qv (q_lss rfl rfl) rfl <| rN <| tS <| ATodo.cond_d rfl (fun hc => ?_) (fun hc => ?_)
      · refine have h := iteT hc h; tK <| tS <| ATodo.block <| tSR <| rM rfl rfl <| rA rfl rfl <| rN <| tS <| ATodo.regionM (id := 6) (A := [0, 0, 3, 7, 0, 0, 48, 112, 255]) 9 mixed rfl (by kernel_rfl) (by kernel_rfl) <| AM.qv (q_move rfl) rfl <| AM.qv (q_move rfl) rfl <| bndE h fun v3 e1 h => AM.qv (t_index rfl rfl rfl e1 rfl rfl) rfl <| AM.qv (q_load_rptr_agg rfl rfl rfl) rfl <| AM.qv (q_move rfl) rfl <| AM.qv (q_move rfl) rfl <| bndE h fun v4 e2 h => AM.qv (t_index rfl rfl rfl e2 rfl rfl) rfl <| AM.qv (q_load_rptr_agg rfl rfl rfl) rfl <| AM.qv (t_tne (g := Cell.av) (X := v3) (Y := v4) rfl rfl rfl rfl rfl) rfl <| AM.nil <| rN <| ATodo.cond_d rfl (fun hc => ?_) (fun hc => ?_)
        · refine have h := iteT hc h; tSR <| rA rfl rfl <| rN <| ATodo.ret <| have h := outL h hA1; ?_
          obtain rfl := Option.some.inj h
          exact ImpX.here ⟨_, .cons (.tmp _ _ rfl) .nil, rfl⟩
        · refine have h := iteF hc h; tK <| ATodo.blk <| tR <| ARun.qv (q_addw rfl rfl) rfl <| rM rfl rfl <| rN <| ATodo.stop <| ?_
          obtain rfl := Option.some.inj h
          exact hJ1 _ _ rfl <| ImpX.lq [] rfl rfl rfl
      · refine have h := iteF hc h; ATodo.exit rfl <| have h := outL h hA1; tSR <| rA rfl rfl <| rN <| ATodo.ret <| ?_
        obtain rfl := Option.some.inj h
        exact ImpX.here ⟨_, .cons (.tmp _ _ rfl) .nil, rfl⟩

set_option maxHeartbeats 4000000 in
theorem Q_SameTwin_c [GI : GTab] {p0x0 : TwinS} {p1x0 : TwinS} {r : Bool} (h : Q_SameTwin p0x0 p1x0 = some r) : Pu Tryz.prog 40 [.agg [.list 8 (p0x0.Desired.map Cell.av), .list 8 (p0x0.Reported.map Cell.av)], .agg [.list 8 (p1x0.Desired.map Cell.av), .list 8 (p1x0.Reported.map Cell.av)]] (.bool r) := by
  unfold Q_SameTwin at h
  refine ACall.bodyN Tryz.func40 rfl Tryz.ntmps40 Tryz.results40 rfl rfl ?_
  refine tSR <| n_box rfl rfl rfl rfl fun b1 => n_box rfl rfl rfl rfl fun b2 => rA rfl rfl <| rN <| tS <| ATodo.cut (fun σ' => ∃ (c3 : Bool), Q_SameTwin_j1 c3 = some r ∧ σ' = ⟨17, [(4, .bool c3)], []⟩) ?_ ?_
  · refine tR <| rF rfl rfl rfl <| rL rfl rfl .p1 rfl rfl <| rF rfl rfl rfl <| rL rfl rfl .p0 rfl rfl <| bndE h fun v4 e1 h => r_callp rfl (slices_Equal_Cell_Cell_c e1) (CoL.refl _) rfl <| rM rfl rfl <| ARun.guard rfl rfl rfl (fun hc => ?_) (fun hc => ?_)
    · exact have h := iteT hc h; rF rfl rfl rfl <| rY rfl rfl rfl <| rL rfl rfl .p1 rfl rfl <| rY rfl rfl rfl <| rF rfl rfl rfl <| rY rfl rfl rfl <| rL rfl rfl .p0 rfl rfl <| rY rfl rfl rfl <| bndE h fun v5 e2 h => r_callp rfl (slices_Equal_Cell_Cell_c e2) (CoL.refl _) rfl <| rT rfl rfl rfl <| rA rfl rfl <| rN <| ATodo.stop <| ImpX.lq [] ⟨v5, h, rfl⟩ rfl rfl
    · exact have h := iteFb hc h; rG rfl rfl rfl rfl <| rG rfl rfl rfl rfl <| rG rfl rfl rfl rfl <| rG rfl rfl rfl rfl <| rE rfl rfl rfl <| rA rfl rfl <| rN <| ATodo.stop <| ImpX.lq [] ⟨false, h, rfl⟩ rfl rfl
  · rintro σ' ⟨c3, h, rfl⟩
    unfold Q_SameTwin_j1 at h
    refine ATodo.ret <| ?_
    obtain rfl := Option.some.inj h
    exact ImpX.here ⟨_, .cons (.tmp _ _ rfl) .nil, rfl⟩

set_option maxHeartbeats 4000000 in
theorem twin_CheckProps_1x_c [GI : GTab] {p0x0 : Str} {p1x0 : List PropS} {r : Bool} (h : twin_CheckProps_1x p0x0 p1x0 = some r) : Pu Tryz.prog 144 [.str p0x0, .rptr [.list 5 (p1x0.map PropS.av)]] (.bool r) := by
  unfold twin_CheckProps_1x at h
  refine ACall.bodyN Tryz.func144 rfl Tryz.ntmps144 Tryz.results144 rfl rfl ?_
  refine tSR <| rA rfl rfl <| rN <| tSR <| ARun.qv (q_load_rptr rfl rfl rfl) rfl <| rM rfl rfl <| bndE h fun v1 e1 h => r_callp rfl (twin_find_c e1) (CoL.refl _) rfl <| ARun.qv (q_geq rfl rfl) rfl <| rA rfl rfl <| rN <| ATodo.ret <| ?_
  obtain rfl := Option.some.inj h
  exact ImpX.here ⟨_, .cons (.tmp _ _ rfl) .nil, rfl⟩

set_option maxHeartbeats 4000000 in
theorem twin_above_c [GI : GTab] {p0x0 : Str} {fnb : Str → Option Bool} {fnb_F : FuncId} [IsFn Tryz.prog fnb_F] {fnb_C : List AV} (fnb_h : ∀ {y0 : _} {u : Bool}, fnb y0 = some u → Pu Tryz.prog fnb_F (.str y0 ::  fnb_C) (.bool u)) {r : Bool} (h : twin_above p0x0 fnb = some r) : Pu Tryz.prog 143 [.str p0x0, .func (.func fnb_F) fnb_C] (.bool r) := by
  unfold twin_above at h
  refine ACall.bodyN Tryz.func143 rfl Tryz.ntmps143 Tryz.results143 rfl rfl ?_
  refine tSR <| rA rfl rfl <| rN <| tS <| tSR <| rM rfl rfl <| ARun.qv (q_len_str rfl) rfl <| rM rfl rfl <| rN <| ATodo.block <| ATodo.loopI (fun x : Int => twin_above_b1 p0x0 fnb x) (fun x σ' => σ' = ⟨23, [(0, .str p0x0), (1, .func (.func fnb_F) fnb_C), (7, I (p0x0.length : Int)), (8, I x)], []⟩) h ?_ ?_
  · exact ImpX.lq [] rfl rfl rfl
  · intro n2 z1 σ' J1 hmk h hJ1 hA1
    obtain rfl := hmk
    replace h : twin_above_b1 p0x0 fnb n2 = some z1 := h
    unfold twin_above_b1 at h
    refine tSR <| ARun.qv (q_lss rfl rfl) rfl <| rN <| tS <| ATodo.cond_d rfl (fun hc => ?_) (fun hc => ?_)
    · refine have h := iteT hc h; tK <| tS <| ATodo.block <| tSR <| rM rfl rfl <| rA rfl rfl <| rN <| tS <| ATodo.cut (fun σ' => ∃ (c3 : Bool), twin_above_j1 n2 c3 = some z1 ∧ σ' = ⟨23, [(0, .str p0x0), (1, .func (.func fnb_F) fnb_C), (7, I (p0x0.length : Int)), (8, I n2), (21, .bool c3)], []⟩) ?_ ?_
      · refine tR <| rM rfl rfl <| rM rfl rfl <| bndE h fun c4 e1 h => ARun.qv (t_index_str rfl rfl e1) rfl <| ARun.qv (q_eql rfl rfl) rfl <| rM rfl rfl <| ARun.guard_dt rfl rfl rfl (fun hc => ?_) (fun hc => ?_)
        · exact have h := iteT hc h; rM rfl rfl <| rY rfl rfl rfl <| rM rfl rfl <| rY rfl rfl rfl <| rM rfl rfl <| rY rfl rfl rfl <| bndE h fun l5 e2 h => ARun.qv (t_slice_str rfl .none (.some _ _ _ rfl) rfl rfl e2) rfl <| rY rfl rfl rfl <| bndE h fun v6 e3 h => r_callvp rfl rfl (fnb_h e3) (CoL.refl _) rfl <| rT rfl rfl rfl <| rN <| ATodo.stop <| ImpX.lq [] ⟨v6, h, rfl⟩ rfl rfl
        · exact have h := iteF hc h; rG rfl rfl rfl rfl <| rG rfl rfl rfl rfl <| rG rfl rfl rfl rfl <| rG rfl rfl rfl rfl <| rE rfl rfl rfl <| rN <| ATodo.stop <| ImpX.lq [] ⟨false, h, rfl⟩ rfl rfl
      · rintro σ' ⟨c3, h, rfl⟩
        unfold twin_above_j1 at h
        refine ATodo.cond rfl (fun hc => ?_) (fun hc => ?_)
        · refine have h := iteT hc h; tSR <| rA rfl rfl <| rN <| ATodo.ret <| have h := outL h hA1; ?_
          obtain rfl := Option.some.inj h
          exact ImpX.here ⟨_, .cons (.tmp _ _ rfl) .nil, rfl⟩
        · refine have h := iteFb hc h; tK <| ATodo.blk <| tR <| ARun.qv (q_addw rfl rfl) rfl <| rM rfl rfl <| rN <| ATodo.stop <| ?_
          obtain rfl := Option.some.inj h
          exact hJ1 _ _ rfl <| ImpX.lq [] rfl rfl rfl
    · refine have h := iteF hc h; ATodo.exit rfl <| have h := outL h hA1; tSR <| rA rfl rfl <| rN <| ATodo.ret <| ?_
      obtain rfl := Option.some.inj h
      exact ImpX.here ⟨_, .cons (.tmp _ _ rfl) .nil, rfl⟩

set_option maxHeartbeats 4000000 in
theorem twin_CheckProps_c {p0x0 : List PropS} {r : Int} (h : twin_CheckProps p0x0 = some r) : Pu Tryz.prog 108 [.list 5 (p0x0.map PropS.av)] (I r) := by
  unfold twin_CheckProps at h
  refine ACall.bodyN Tryz.func108 rfl Tryz.ntmps108 Tryz.results108 rfl rfl ?_
  refine tSR <| n_box rfl rfl rfl rfl fun b1 => rA rfl rfl <| rN <| tS <| tSR <| rL rfl rfl .p0 rfl rfl <| ARun.qv (t_len rfl) rfl <| ARun.qv (q_gtr rfl rfl) rfl <| rN <| ATodo.cond_d rfl (fun hc => ?_) (fun hc => ?_)
  · refine have h := iteT hc h; tSR <| rA rfl rfl <| rN <| ATodo.ret <| ?_
    obtain rfl := Option.some.inj h
    exact ImpX.here ⟨_, .cons (.tmp _ _ rfl) .nil, rfl⟩
  · refine have h := iteF hc h; tK <| tS <| tSR <| rL rfl rfl .p0 rfl rfl <| ARun.qv (t_len rfl) rfl <| rM rfl rfl <| rN <| ATodo.block <| ATodo.loopI (fun x : Int => twin_CheckProps_b1 p0x0 x) (fun x σ' => σ' = ⟨57, [(1, .ptr b1 0), (11, .list 5 (p0x0.map PropS.av)), (12, I (p0x0.length : Int)), (13, I x)], [(b1, .cells [.list 5 (p0x0.map PropS.av)])]⟩) h ?_ ?_
    · exact ImpX.lq [0] rfl rfl rfl
    · intro n3 z1 σ' J1 hmk h hJ1 hA1
      obtain rfl := hmk
      replace h : twin_CheckProps_b1 p0x0 n3 = some z1 := h
      unfold twin_CheckProps_b1 at h
      refine tSR <| ARun.qv (q_lss rfl rfl) rfl <| rN <| tS <| ATodo.cond_d rfl (fun hc => ?_) (fun hc => ?_)
      · refine have h := iteT hc h; tK <| tS <| ATodo.block <| tSR <| rM rfl rfl <| bndE h fun v4 e1 h => ARun.qv (t_index rfl rfl rfl e1 rfl rfl) rfl <| ARun.qv (q_load_rptr_agg rfl rfl rfl) rfl <| n_alloc rfl rfl rfl rfl fun b5 => rA rfl rfl <| n_store_ptr rfl rfl rfl rfl .p0 rfl rfl <| rN <| tS <| tSR <| rF rfl rfl rfl <| rL rfl rfl .p0 rfl rfl <| bndE h fun v6 e2 h => r_callp rfl (twin_isName_c e2) (CoL.refl _) rfl <| ARun.qv (q_not rfl) rfl <| rN <| ATodo.cond rfl (fun hc => ?_) (fun hc => ?_)
        · refine have h := iteT hc h; tSR <| rA rfl rfl <| rN <| ATodo.ret <| have h := outL h hA1; ?_
          obtain rfl := Option.some.inj h
          exact ImpX.here ⟨_, .cons (.tmp _ _ rfl) .nil, rfl⟩
        · refine have h := iteFb hc h; tK <| tS <| tSR <| rF rfl rfl rfl <| ARun.qv (n_load_ptr_part rfl rfl .p0 rfl rfl) rfl <| bndE h fun v7 e3 h => r_callp rfl (twin_valueFault_c e3) (CoL.refl _) rfl <| rA rfl rfl <| rN <| tSR <| rM rfl rfl <| ARun.qv (q_neq rfl rfl) rfl <| rN <| ATodo.cond_d rfl (fun hc => ?_) (fun hc => ?_)
          · refine have h := iteT hc h; tSR <| rM rfl rfl <| rA rfl rfl <| rN <| ATodo.ret <| have h := outL h hA1; ?_
            obtain rfl := Option.some.inj h
            exact ImpX.here ⟨_, .cons (.tmp _ _ rfl) .nil, rfl⟩
          · refine have h := iteF hc h; tK <| tS <| tSR <| rF rfl rfl rfl <| rF rfl rfl rfl <| rL rfl rfl .p0 rfl rfl <| ARun.qv (q_eql rfl rfl) rfl <| rN <| ATodo.cond_d rfl (fun hc => ?_) (fun hc => ?_)
            · refine have h := iteT hc h; tSR <| rA rfl rfl <| rN <| ATodo.ret <| have h := outL h hA1; ?_
              obtain rfl := Option.some.inj h
              exact ImpX.here ⟨_, .cons (.tmp _ _ rfl) .nil, rfl⟩
            · refine have h := iteF hc h; tK <| tS <| ATodo.cut (fun σ' => ∃ (c8 : Bool), twin_CheckProps_j1 n3 c8 = some z1 ∧ σ' = ⟨57, [(1, .ptr b1 0), (11, .list 5 (p0x0.map PropS.av)), (12, I (p0x0.length : Int)), (13, I n3), (44, .bool c8)], [(b1, .cells [.list 5 (p0x0.map PropS.av)])]⟩) ?_ ?_
              · refine ATodo.regionM (id := 13) (A := [0, 1, 3, 7, 15, 7, 7, 71, 231, 487, 999, 2047, 4095]) 13 mixed rfl (by kernel_rfl) (by kernel_rfl) <| AM.qv (q_move rfl) rfl <| AM.qv (q_gtr rfl rfl) rfl <| AM.qv (q_move rfl) rfl <| AM.guard_dt rfl rfl rfl (fun hc => ?_) (fun hc => ?_)
                · exact have h := iteT hc h; AM.qv (n_field_ptr rfl rfl) rfl <| AM.guard_yes rfl rfl rfl <| AM.qv (q_load_ptr rfl rfl .p0 rfl) rfl <| AM.guard_yes rfl rfl rfl <| AM.qv (q_load_ptr rfl rfl .p1 rfl) rfl <| AM.guard_yes rfl rfl rfl <| AM.qv (q_move rfl) rfl <| AM.guard_yes rfl rfl rfl <| AM.qv (q_subw rfl rfl) rfl <| AM.guard_yes rfl rfl rfl <| bndE h fun v9 e4 h => AM.qv (t_index rfl rfl rfl e4 rfl rfl) rfl <| AM.guard_yes rfl rfl rfl <| AM.qv (n_field_rptr rfl rfl) rfl <| AM.guard_yes rfl rfl rfl <| AM.qv (q_load_rptr rfl rfl rfl) rfl <| AM.guard_yes rfl rfl rfl <| AM.qv (t_sleq rfl rfl) rfl <| AM.qv (q_pick_t rfl rfl) rfl <| AM.nil <| rN <| ATodo.stop <| ImpX.lq [1] ⟨Op.bytesLess v4.Name v9.Name || v4.Name == v9.Name, h, rfl⟩ rfl rfl
                · exact have h := iteF hc h; AM.guard_no rfl rfl rfl rfl <| AM.guard_no rfl rfl rfl rfl <| AM.guard_no rfl rfl rfl rfl <| AM.guard_no rfl rfl rfl rfl <| AM.guard_no rfl rfl rfl rfl <| AM.guard_no rfl rfl rfl rfl <| AM.guard_no rfl rfl rfl rfl <| AM.guard_no rfl rfl rfl rfl <| AM.qv (q_pick_f rfl rfl) rfl <| AM.nil <| rN <| ATodo.stop <| ImpX.lq [1] ⟨false, h, rfl⟩ rfl rfl
              · rintro σ' ⟨c8, h, rfl⟩
                unfold twin_CheckProps_j1 at h
                refine ATodo.cond rfl (fun hc => ?_) (fun hc => ?_)
                · refine have h := iteT hc h; tSR <| rA rfl rfl <| rN <| ATodo.ret <| have h := outL h hA1; ?_
                  obtain rfl := Option.some.inj h
                  exact ImpX.here ⟨_, .cons (.tmp _ _ rfl) .nil, rfl⟩
                · refine have h := iteFb hc h; tK <| ATodo.blk <| tR <| ARun.qv (q_addw rfl rfl) rfl <| rM rfl rfl <| rN <| ATodo.stop <| ?_
                  obtain rfl := Option.some.inj h
                  exact hJ1 _ _ rfl <| ImpX.lq [0] rfl rfl rfl
      · refine have h := iteF hc h; ATodo.exit rfl <| have h := outL h hA1; tS <| tSR <| rL rfl rfl .p0 rfl rfl <| ARun.qv (t_len rfl) rfl <| rM rfl rfl <| rN <| ATodo.block <| ATodo.loopI (fun x : Int => twin_CheckProps_b2 p0x0 x) (fun x σ' => σ' = ⟨57, [(1, .ptr b1 0), (46, .list 5 (p0x0.map PropS.av)), (47, I (p0x0.length : Int)), (48, I x)], [(b1, .cells [.list 5 (p0x0.map PropS.av)])]⟩) h ?_ ?_
        · exact ImpX.lq [0] rfl rfl rfl
        · intro n11 z2 σ' J2 hmk h hJ2 hA2
          obtain rfl := hmk
          replace h : twin_CheckProps_b2 p0x0 n11 = some z2 := h
          unfold twin_CheckProps_b2 at h
          refine tSR <| ARun.qv (q_lss rfl rfl) rfl <| rN <| tS <| ATodo.cond_d rfl (fun hc => ?_) (fun hc => ?_)
          · refine have h := iteT hc h; tK <| tS <| ATodo.block <| tSR <| bndE h fun v12 e5 h => ARun.qv (t_index rfl rfl rfl e5 rfl rfl) rfl <| ARun.qv (q_load_rptr_agg rfl rfl rfl) rfl <| n_alloc rfl rfl rfl rfl fun b13 => n_store_ptr rfl rfl rfl rfl .p0 rfl rfl <| rN <| tSR <| rF rfl rfl rfl <| rL rfl rfl .p0 rfl rfl <| ARun.qv (q_makeFunc rfl) rfl <| bndE h fun v14 e6 h => r_callpB rfl (twin_above_c (fun e => twin_CheckProps_1x_c e) e6) (.cons (.co (.refl _)) (.cons (.funcL _ _ _ (.cons (.boxL _ _ _ .p1 (.cons (.co (.refl _)) .nil)) .nil)) .nil)) rfl rfl <| rN <| ATodo.cond rfl (fun hc => ?_) (fun hc => ?_)
            · refine have h := iteT hc h; tSR <| rA rfl rfl <| rN <| ATodo.ret <| have h := outL h hA2; ?_
              obtain rfl := Option.some.inj h
              exact ImpX.here ⟨_, .cons (.tmp _ _ rfl) .nil, rfl⟩
            · refine have h := iteFb hc h; tK <| ATodo.blk <| tR <| ARun.qv (q_addw rfl rfl) rfl <| rM rfl rfl <| rN <| ATodo.stop <| ?_
              obtain rfl := Option.some.inj h
              exact hJ2 _ _ rfl <| ImpX.lq [1] rfl rfl rfl
          · refine have h := iteF hc h; ATodo.exit rfl <| have h := outL h hA2; tSR <| rA rfl rfl <| rN <| ATodo.ret <| ?_
            obtain rfl := Option.some.inj h
            exact ImpX.here ⟨_, .cons (.tmp _ _ rfl) .nil, rfl⟩

set_option maxHeartbeats 4000000 in
theorem twin_Differ_c {p0x0 : List PropS} {p1x0 : List PropS} {r : (List Change) × Int} (h : twin_Differ p0x0 p1x0 = some r) : ACall Tryz.prog 58 [.list 5 (p0x0.map PropS.av), .list 5 (p1x0.map PropS.av)] [] (T1 (fun d_0 => [(d_0, .arr 9 (r.1.map Change.av))]) (fun d_0 => .tup [.sl 9 d_0 0 r.1.length, I r.2])) := by
  unfold twin_Differ at h
  refine ACall.lessH ?_
  refine ACall.bodyN Tryz.func58 rfl Tryz.ntmps58 Tryz.results58 rfl rfl ?_
  refine tSR <| rA rfl rfl <| rA rfl rfl <| rN <| tS <| tSR <| rM rfl rfl <| bndE h fun v1 e1 h => r_callp rfl (twin_CheckProps_c e1) (CoL.refl _) rfl <| rM rfl rfl <| bndE h fun v2 e2 h => r_callp rfl (twin_CheckProps_c e2) (CoL.refl _) rfl <| n_buildSliceL (xs := ([v1, v2] : List Int).map I) rfl rfl rfl rfl rfl rfl <| bndE h fun v3 e3 h => r_callp rfl (base_First_c e3) (CoL.refl _) rfl <| rA rfl rfl <| rN <| tSR <| rM rfl rfl <| ARun.qv (q_neq rfl rfl) rfl <| rN <| ATodo.cond_d rfl (fun hc => ?_) (fun hc => ?_)
  · refine have h := iteT hc h; tSR <| rM rfl rfl <| rA rfl rfl <| rA rfl rfl <| rN <| ATodo.ret <| ?_
    obtain rfl := Option.some.inj h
    exact ImpX.arr (s := 4) 9 rfl fun b4 => ImpX.here ⟨_, .cons (.tmp _ _ rfl) (.cons (.tmp _ _ rfl) .nil), _, .cons .p0 .nil, ⟨b4, rfl, rfl⟩⟩
  · refine have h := iteF hc h; tK <| tSR <| rA rfl rfl <| rN <| tS <| tSR <| rM rfl rfl <| rM rfl rfl <| n_buildSliceL (xs := ([p0x0, p1x0] : List (List PropS)).map (encL 5 PropS.av)) rfl rfl rfl rfl rfl rfl <| bndE h fun v5 e4 h => t_call1 rfl (twin_names_c e4) (CoL.refl _) .nil (fun _ => rfl) rfl fun b6 => ARun.qv (t_len_sl rfl) rfl <| rM rfl rfl <| rN <| ATodo.block <| ATodo.loopI (fun x : (List Change) × Int => twin_Differ_b1 p0x0 p1x0 v5 x.1 x.2) (fun x σ' => ∃ (b10 : Bk), σ' = ⟨48, [(0, .list 5 (p0x0.map PropS.av)), (1, .list 5 (p1x0.map PropS.av)), (7, .sl 9 b10 0 x.1.length), (24, .sl 1 b6 0 v5.length), (25, I (v5.length : Int)), (26, I x.2)], [(b10, .arr 9 (x.1.map Change.av)), (b6, .arr 1 (v5.map AV.str))]⟩) h ?_ ?_
    · exact ImpX.arr (s := 7) 9 rfl fun b13 => ImpX.lq [0, 0] ⟨b13, rfl⟩ rfl rfl
    · intro x z1 σ' J1 hmk h hJ1 hA1
      obtain ⟨l11, n12⟩ := x
      obtain ⟨b10, rfl⟩ := hmk
      replace h : twin_Differ_b1 p0x0 p1x0 v5 l11 n12 = some z1 := h
      unfold twin_Differ_b1 at h
      refine tSR <| ARun.qv (q_lss rfl rfl) rfl <| rN <| tS <| ATodo.cond_d rfl (fun hc => ?_) (fun hc => ?_)
      · refine have h := iteT hc h; tK <| tS <| ATodo.block <| tSR <| bndE h fun v14 e5 h => ARun.qv (t_index_sl rfl rfl rfl e5) rfl <| ARun.qv (t_load_aptr (g := AV.str) rfl rfl (.inl .p1) e5 rfl) rfl <| rA rfl rfl <| rN <| tSR <| rM rfl rfl <| rM rfl rfl <| bndE h fun v15 e6 h => r_callp rfl (twin_valueOf_c e6) (CoL.refl _) rfl <| rM rfl rfl <| rM rfl rfl <| bndE h fun v16 e7 h => r_callp rfl (twin_valueOf_c e7) (CoL.refl _) rfl <| n_alloc rfl rfl rfl rfl fun b17 => n_alloc rfl rfl rfl rfl fun b18 => n_store_ptr rfl rfl rfl rfl .p1 rfl rfl <| n_store_ptr rfl rfl rfl rfl .p0 rfl rfl <| rN <| tSR <| ARun.qv (q_load_ptr_all rfl rfl .p1 rfl) rfl <| ARun.qv (q_load_ptr_all rfl rfl .p0 rfl) rfl <| ARun.qv (t_tne (g := ValueS.av) (X := v15) (Y := v16) rfl rfl rfl rfl rfl) rfl <| rN <| ATodo.cut (fun σ' => ∃ (b19 : Bk) (l20 : List Change), twin_Differ_j1 n12 l20 = some z1 ∧ σ' = ⟨48, [(0, .list 5 (p0x0.map PropS.av)), (1, .list 5 (p1x0.map PropS.av)), (7, .sl 9 b19 0 l20.length), (24, .sl 1 b6 0 v5.length), (25, I (v5.length : Int)), (26, I n12)], [(b19, .arr 9 (l20.map Change.av)), (b6, .arr 1 (v5.map AV.str))]⟩) ?_ ?_
        · refine ATodo.cond_d rfl (fun hc => ?_) (fun hc => ?_)
          · exact have h := iteT hc h; tR <| rM rfl rfl <| rM rfl rfl <| ARun.qv (q_load_ptr_all rfl rfl .p1 rfl) rfl <| ARun.qv (q_load_ptr_all rfl rfl .p0 rfl) rfl <| ARun.qv (n_build rfl rfl rfl rfl rfl) rfl <| n_buildSliceL (xs := ([(⟨v14, v15, v16⟩ : Change)]).map Change.av) rfl rfl rfl rfl rfl rfl <| bndE h fun l21 e8 h => t_append (g := Change.av) rfl rfl rfl rfl rfl rfl rfl rfl (.list _) e8 (fun _ => .p2) rfl fun b22 => rA rfl rfl <| rN <| ATodo.stop <| ImpX.lq [2, 2] ⟨b22, l21, h, rfl⟩ rfl rfl
          · exact have h := iteF hc h; tK <| ATodo.stop <| ImpX.lq [2, 2] ⟨b10, l11, h, rfl⟩ rfl rfl
        · rintro σ' ⟨b19, l20, h, rfl⟩
          unfold twin_Differ_j1 at h
          refine ATodo.blk <| tR <| ARun.qv (q_addw rfl rfl) rfl <| rM rfl rfl <| rN <| ATodo.stop <| ?_
          obtain rfl := Option.some.inj h
          exact hJ1 _ _ rfl <| ImpX.lq [0, 0] ⟨b19, rfl⟩ rfl rfl
      · refine have h := iteF hc h; ATodo.exit rfl <| have h := outL h hA1; tSR <| rM rfl rfl <| rA rfl rfl <| rA rfl rfl <| rN <| ATodo.ret <| ?_
        obtain rfl := Option.some.inj h
        exact ImpX.here ⟨_, .cons (.tmp _ _ rfl) (.cons (.tmp _ _ rfl) .nil), _, .cons .p0 .nil, ⟨b10, rfl, rfl⟩⟩

set_option maxHeartbeats 4000000 in
theorem L_twinned_c {r : Bool} (h : L_twinned = some r) : Pu Tryz.prog 17 [] (.bool r) := by
  unfold L_twinned at h
  refine ACall.bodyN Tryz.func17 rfl Tryz.ntmps17 Tryz.results17 rfl rfl ?_
  refine tSR <| rA rfl rfl <| rN <| tSR <| ARun.qv (n_build rfl rfl rfl rfl rfl) rfl <| ARun.qv (n_build rfl rfl rfl rfl rfl) rfl <| n_buildSliceL (xs := ([(⟨([97] : Str), (⟨(1 : Int), false, (0 : Int), []⟩ : ValueS)⟩ : PropS)]).map PropS.av) rfl rfl rfl rfl rfl rfl <| bndE h fun v1 e1 h => t_call1 rfl (twin_Differ_c e1) (.cons (.nil _) (.cons (.refl _) .nil)) .nil (fun _ => rfl) rfl fun b2 => rM rfl rfl <| rX rfl rfl rfl <| rX rfl rfl rfl <| rA rfl rfl <| rA rfl rfl <| rN <| tS <| ATodo.cut (fun σ' => ∃ (c3 : Bool), L_twinned_j1 c3 = some r ∧ σ' = ⟨24, [(0, .bool c3)], []⟩) ?_ ?_
  · refine tR <| rM rfl rfl <| ARun.qv (q_eql rfl rfl) rfl <| rM rfl rfl <| ARun.guard_dt rfl rfl rfl (fun hc => ?_) (fun hc => ?_)
    · refine have h := iteT hc h; rM rfl rfl <| rY rfl rfl rfl <| ARun.qv (t_len_sl rfl) rfl <| rY rfl rfl rfl <| ARun.qv (q_eql rfl rfl) rfl <| rT rfl rfl rfl <| rM rfl rfl <| ARun.guard_dt rfl rfl rfl (fun hc => ?_) (fun hc => ?_)
      · exact have h := iteT hc h; rM rfl rfl <| rY rfl rfl rfl <| bndE h fun v4 e2 h => ARun.qv (t_index_sl rfl rfl rfl e2) rfl <| rY rfl rfl rfl <| ARun.qv (t_field_aptr rfl rfl) rfl <| rY rfl rfl rfl <| ARun.qv (t_load_aptr (g := Change.av) rfl rfl (.inl .p0) e2 rfl) rfl <| rY rfl rfl rfl <| ARun.qv (q_seq rfl rfl) rfl <| rT rfl rfl rfl <| rA rfl rfl <| rN <| ATodo.stop <| ImpX.lq [] ⟨decide (v4.Name = ([97] : Str)), h, rfl⟩ rfl rfl
      · exact have h := iteF hc h; rG rfl rfl rfl rfl <| rG rfl rfl rfl rfl <| rG rfl rfl rfl rfl <| rG rfl rfl rfl rfl <| rE rfl rfl rfl <| rA rfl rfl <| rN <| ATodo.stop <| ImpX.lq [] ⟨false, h, rfl⟩ rfl rfl
    · exact have h := iteF hc h; rG rfl rfl rfl rfl <| rG rfl rfl rfl rfl <| rE rfl rfl rfl <| rM rfl rfl <| rG rfl rfl rfl rfl <| rG rfl rfl rfl rfl <| rG rfl rfl rfl rfl <| rG rfl rfl rfl rfl <| rG rfl rfl rfl rfl <| rE rfl rfl rfl <| rA rfl rfl <| rN <| ATodo.stop <| ImpX.lq [] ⟨false, h, rfl⟩ rfl rfl
  · rintro σ' ⟨c3, h, rfl⟩
    unfold L_twinned_j1 at h
    refine ATodo.ret <| ?_
    obtain rfl := Option.some.inj h
    exact ImpX.here ⟨_, .cons (.tmp _ _ rfl) .nil, rfl⟩

set_option maxHeartbeats 4000000 in
theorem L_TwinsSettle_c {p0x0 : List Int} {r : Bool} (h : L_TwinsSettle p0x0 = some r) : Pu Tryz.prog 5 [.list 1 (p0x0.map I)] (.bool r) := by
  unfold L_TwinsSettle at h
  refine ACall.bodyN Tryz.func5 rfl Tryz.ntmps5 Tryz.results5 rfl rfl ?_
  refine tSR <| rA rfl rfl <| rN <| tSR <| rM rfl rfl <| ARun.qv (n_build rfl rfl rfl rfl rfl) rfl <| n_box rfl rfl rfl rfl fun b1 => rA rfl rfl <| rN <| tSR <| rM rfl rfl <| bndE h fun v2 e1 h => t_call0 rfl (Stream_Twin_c e1) (CoL.refl _) (.cons .p0 .nil) rfl rfl <| rM rfl rfl <| n_buildSliceL (xs := ([(9 : Int), (10 : Int), (10 : Int), (10 : Int)]).map I) rfl rfl rfl rfl rfl rfl <| bndE h fun v3 e2 h => t_call0 rfl (Stream_Pick_c e2) (CoL.refl _) (.cons .p0 .nil) rfl rfl <| rM rfl rfl <| n_buildSliceL (xs := ([([100] : Str), ([107] : Str)]).map AV.str) rfl rfl rfl rfl rfl rfl <| bndE h fun v4 e3 h => t_call0 rfl (Stream_Some_c e3) (CoL.refl _) (.cons .p0 .nil) rfl rfl <| rM rfl rfl <| n_buildSliceL (xs := ([(0 : Int), (1 : Int)]).map I) rfl rfl rfl rfl rfl rfl <| bndE h fun v5 e4 h => t_call0 rfl (Stream_Pick_c e4) (CoL.refl _) (.cons .p0 .nil) rfl rfl <| ARun.qv (n_build rfl rfl rfl rfl rfl) rfl <| n_alloc rfl rfl rfl rfl fun b6 => n_alloc rfl rfl rfl rfl fun b7 => n_store_ptr rfl rfl rfl rfl .p1 rfl rfl <| n_store_ptr rfl rfl rfl rfl .p0 rfl rfl <| rN <| tS <| tSR <| rM rfl rfl <| bndE h fun v8 e5 h => t_call0 rfl (Stream_Flip_c e5) (CoL.refl _) (.cons .p2 .nil) rfl rfl <| rN <| ATodo.cut (fun σ' => ∃ (l9 : List Int) (n10 : Int) (n11 : Int) (q12 : Str) (n13 : Int), L_TwinsSettle_j1 v2 l9 n10 n11 q12 n13 = some r ∧ σ' = ⟨113, [(3, .ptr b1 0), (4, .ptr b6 0), (5, .ptr b7 0)], [(b1, .cells [.list 1 (l9.map I), I n10]), (b6, .cells [.list 8 (v2.1.Desired.map Cell.av), .list 8 (v2.1.Reported.map Cell.av)]), (b7, .cells [I n11, .str q12, I n13])]⟩) ?_ ?_
  · refine ATodo.cond rfl (fun hc => ?_) (fun hc => ?_)
    · exact have h := iteT hc h; tR <| rM rfl rfl <| bndE h fun v14 e6 h => t_call0 rfl (Stream_Stamp_c e6) (CoL.refl _) (.cons .p0 .nil) rfl rfl <| n_store_ptr rfl rfl rfl rfl .p1 rfl rfl <| rN <| ATodo.stop <| ImpX.lq [0, 1, 0] ⟨v14.2.L, v14.2.at_, v14.1.At, v14.1.By, v14.1.No, h, rfl⟩ rfl rfl
    · exact have h := iteFb hc h; tK <| ATodo.stop <| ImpX.lq [0, 1, 0] ⟨v8.2.L, v8.2.at_, v3.1, v4.1, v5.1, h, rfl⟩ rfl rfl
  · rintro σ' ⟨l9, n10, n11, q12, n13, h, rfl⟩
    unfold L_TwinsSettle_j1 at h
    refine tSR <| ARun.qv (q_load_ptr_all rfl rfl .p1 rfl) rfl <| bndE h fun v15 e7 h => t_call1 rfl (twin_Owed_c e7) (CoL.refl _) .nil (fun _ => rfl) rfl fun b16 => rM rfl rfl <| rX rfl rfl rfl <| rX rfl rfl rfl <| rA rfl rfl <| rA rfl rfl <| rN <| tSR <| ARun.qv (q_load_ptr_all rfl rfl .p2 rfl) rfl <| bndE h fun v17 e8 h => r_callp rfl (twin_Settled_c e8) (CoL.refl _) rfl <| rM rfl rfl <| rX rfl rfl rfl <| rX rfl rfl rfl <| rA rfl rfl <| rA rfl rfl <| rN <| tSR <| ARun.qv (q_load_ptr_all rfl rfl .p2 rfl) rfl <| bndE h fun v18 e9 h => r_callp rfl (Q_TwinFault_c e9) (CoL.refl _) rfl <| rA rfl rfl <| rN <| tSR <| rA rfl rfl <| rN <| tS <| tSR <| rM rfl rfl <| ARun.qv (q_eql rfl rfl) rfl <| rN <| ATodo.cut (fun σ' => ∃ (b19 : Bk) (l20 : List Change), L_TwinsSettle_j2 v2 l9 n10 n11 q12 n13 v15 v17 v18 l20 = some r ∧ σ' = ⟨113, [(3, .ptr b1 0), (4, .ptr b6 0), (5, .ptr b7 0), (6, .sl 9 b16 0 v15.1.length), (7, I v15.2), (8, .bool v17.1), (9, I v17.2), (10, I v18), (11, .sl 9 b19 0 l20.length)], [(b1, .cells [.list 1 (l9.map I), I n10]), (b6, .cells [.list 8 (v2.1.Desired.map Cell.av), .list 8 (v2.1.Reported.map Cell.av)]), (b7, .cells [I n11, .str q12, I n13]), (b16, .arr 9 (v15.1.map Change.av)), (b19, .arr 9 (l20.map Change.av))]⟩) ?_ ?_
    · refine ATodo.cond_d rfl (fun hc => ?_) (fun hc => ?_)
      · exact have h := iteT hc h; tR <| ARun.qv (q_load_ptr_all rfl rfl .p2 rfl) rfl <| bndE h fun v21 e10 h => t_call1 rfl (Q_OwedOf_c e10) (CoL.refl _) .nil (fun _ => rfl) rfl fun b22 => rA rfl rfl <| rN <| ATodo.stop <| ImpX.lq [2, 2, 2, 1, 0] ⟨b22, v21, h, rfl⟩ rfl rfl
      · exact have h := iteF hc h; tK <| ATodo.stop <| ImpX.arr (s := 11) 9 rfl fun b23 => ImpX.lq [2, 2, 2, 1, 0] ⟨b23, [], h, rfl⟩ rfl rfl
    · rintro σ' ⟨b19, l20, h, rfl⟩
      unfold L_TwinsSettle_j2 at h
      refine tS <| tS <| ATodo.cut (fun σ' => ∃ (c24 : Bool), L_TwinsSettle_j3 v2 l9 n10 n11 q12 n13 v15 v18 c24 = some r ∧ σ' = ⟨113, [(3, .ptr b1 0), (4, .ptr b6 0), (5, .ptr b7 0), (6, .sl 9 b16 0 v15.1.length), (10, I v18), (74, .bool c24)], [(b1, .cells [.list 1 (l9.map I), I n10]), (b6, .cells [.list 8 (v2.1.Desired.map Cell.av), .list 8 (v2.1.Reported.map Cell.av)]), (b7, .cells [I n11, .str q12, I n13]), (b16, .arr 9 (v15.1.map Change.av))]⟩) ?_ ?_
      · refine tR <| rM rfl rfl <| rM rfl rfl <| ARun.qv (q_neq rfl rfl) rfl <| rM rfl rfl <| ARun.guard_df rfl rfl rfl (fun hc => ?_) (fun hc => ?_)
        · refine have h := iteF hc h; rM rfl rfl <| rY rfl rfl rfl <| rM rfl rfl <| rY rfl rfl rfl <| ARun.qv (q_neq rfl rfl) rfl <| rE rfl rfl rfl <| rM rfl rfl <| ARun.guard_df rfl rfl rfl (fun hc => ?_) (fun hc => ?_)
          · refine have h := iteF hc h; rM rfl rfl <| rY rfl rfl rfl <| rM rfl rfl <| rY rfl rfl rfl <| bndE h fun v25 e11 h => r_callpB rfl (slices_Equal_Change_Change_c e11) (.cons (CoB.arrT .p3) (.cons (CoB.arrT .p4) .nil)) rfl rfl <| rY rfl rfl rfl <| ARun.qv (q_not rfl) rfl <| rE rfl rfl rfl <| rM rfl rfl <| ARun.guard rfl rfl rfl (fun hc => ?_) (fun hc => ?_)
            · rw [orFb hc] at h
              refine rM rfl rfl <| rY rfl rfl rfl <| rM rfl rfl <| rY rfl rfl rfl <| ARun.qv (q_eql rfl rfl) rfl <| rY rfl rfl rfl <| rM rfl rfl <| ARun.guard_dt rfl rfl rfl (fun hc => ?_) (fun hc => ?_)
              · rw [if_pos hc] at h
                exact rM rfl rfl <| rY rfl rfl rfl <| ARun.qv (t_len_sl rfl) rfl <| rY rfl rfl rfl <| ARun.qv (q_eql rfl rfl) rfl <| rY rfl rfl rfl <| rT rfl rfl rfl <| rY rfl rfl rfl <| ARun.qv (q_bne rfl rfl) rfl <| rE rfl rfl rfl <| rN <| ATodo.stop <| ImpX.lq [0, 0, 0, 0] ⟨v17.1 != (decide ((l20.length : Int) = (0 : Int))), h, rfl⟩ rfl rfl
              · rw [if_neg hc] at h
                exact rG rfl rfl rfl rfl <| rG rfl rfl rfl rfl <| rY rfl rfl rfl <| rE rfl rfl rfl <| rY rfl rfl rfl <| ARun.qv (q_bne rfl rfl) rfl <| rE rfl rfl rfl <| rN <| ATodo.stop <| ImpX.lq [0, 0, 0, 0] ⟨v17.1 != false, h, rfl⟩ rfl rfl
            · rw [orTb hc] at h
              exact rG rfl rfl rfl rfl <| rG rfl rfl rfl rfl <| rG rfl rfl rfl rfl <| ARun.guard_und rfl rfl rfl <| ARun.guard_und rfl rfl rfl <| ARun.guard_und rfl rfl rfl <| rG rfl rfl rfl rfl <| rG rfl rfl rfl rfl <| rT rfl rfl rfl <| rN <| ATodo.stop <| ImpX.lq [0, 0, 0, 0] ⟨true, h, rfl⟩ rfl rfl
          · exact have h := iteT hc h; rG rfl rfl rfl rfl <| rG rfl rfl rfl rfl <| rG rfl rfl rfl rfl <| rT rfl rfl rfl <| rM rfl rfl <| rG rfl rfl rfl rfl <| rG rfl rfl rfl rfl <| rG rfl rfl rfl rfl <| rG rfl rfl rfl rfl <| ARun.guard_und rfl rfl rfl <| ARun.guard_und rfl rfl rfl <| ARun.guard_und rfl rfl rfl <| rG rfl rfl rfl rfl <| rG rfl rfl rfl rfl <| rT rfl rfl rfl <| rN <| ATodo.stop <| ImpX.lq [0, 0, 0, 0] ⟨true, h, rfl⟩ rfl rfl
        · exact have h := iteT hc h; rG rfl rfl rfl rfl <| rG rfl rfl rfl rfl <| rT rfl rfl rfl <| rM rfl rfl <| rG rfl rfl rfl rfl <| rG rfl rfl rfl rfl <| rG rfl rfl rfl rfl <| rG rfl rfl rfl rfl <| rT rfl rfl rfl <| rM rfl rfl <| rG rfl rfl rfl rfl <| rG rfl rfl rfl rfl <| rG rfl rfl rfl rfl <| rG rfl rfl rfl rfl <| ARun.guard_und rfl rfl rfl <| ARun.guard_und rfl rfl rfl <| ARun.guard_und rfl rfl rfl <| rG rfl rfl rfl rfl <| rG rfl rfl rfl rfl <| rT rfl rfl rfl <| rN <| ATodo.stop <| ImpX.lq [0, 0, 0, 0] ⟨true, h, rfl⟩ rfl rfl
      · rintro σ' ⟨c24, h, rfl⟩
        unfold L_TwinsSettle_j3 at h
        refine ATodo.cond rfl (fun hc => ?_) (fun hc => ?_)
        · refine have h := iteT hc h; tSR <| rA rfl rfl <| rN <| ATodo.ret <| ?_
          obtain rfl := Option.some.inj h
          exact ImpX.here ⟨_, .cons (.tmp _ _ rfl) .nil, rfl⟩
        · refine have h := iteFb hc h; tK <| tS <| tSR <| rM rfl rfl <| bndE h fun v26 e12 h => t_call0 rfl (Stream_Flip_c e12) (CoL.refl _) (.cons .p0 .nil) rfl rfl <| rN <| ATodo.cut (fun σ' => ∃ (b27 : Bk) (l28 : List Change), L_TwinsSettle_j4 v2 n11 q12 n13 v18 l28 = some r ∧ σ' = ⟨113, [(4, .ptr b6 0), (5, .ptr b7 0), (6, .sl 9 b27 0 l28.length), (10, I v18)], [(b6, .cells [.list 8 (v2.1.Desired.map Cell.av), .list 8 (v2.1.Reported.map Cell.av)]), (b7, .cells [I n11, .str q12, I n13]), (b27, .arr 9 (l28.map Change.av))]⟩) ?_ ?_
          · refine ATodo.cond rfl (fun hc => ?_) (fun hc => ?_)
            · exact have h := iteT hc h; tR <| rM rfl rfl <| bndE h fun v29 e13 h => t_call1 rfl (Stream_Changes_c e13) (.cons (.refl _) (.cons (.nil _) .nil)) (.cons .p0 .nil) (fun _ => rfl) rfl fun b30 => rA rfl rfl <| rN <| ATodo.stop <| ImpX.lq [2, 2, 1] ⟨b30, v29.1, h, rfl⟩ rfl rfl
            · exact have h := iteFb hc h; tK <| ATodo.stop <| ImpX.lq [1, 1, 1] ⟨b16, v15.1, h, rfl⟩ rfl rfl
          · rintro σ' ⟨b27, l28, h, rfl⟩
            unfold L_TwinsSettle_j4 at h
            refine tSR <| ARun.qv (q_load_ptr_all rfl rfl .p0 rfl) rfl <| rM rfl rfl <| ARun.qv (q_load_ptr_all rfl rfl .p1 rfl) rfl <| bndE h fun v31 e14 h => ARun.ghost <| ImpX.freeze .p2 <| ImpX.here <| r_callp rfl (twin_Take_c e14) (.cons (.refl _) (.cons (Co.froT .p2) (.cons (.refl _) .nil))) rfl <| rM rfl rfl <| rX rfl rfl rfl <| rX rfl rfl rfl <| n_alloc rfl rfl rfl rfl fun b32 => n_store_ptr rfl rfl rfl rfl .p0 rfl rfl <| rA rfl rfl <| rN <| tSR <| n_alloc rfl rfl rfl rfl fun b33 => rN <| tS <| tS <| ATodo.regionM (id := 17) (A := [0, 0, 2, 0, 14, 31, 63, 127]) 8 mixed rfl (by kernel_rfl) (by kernel_rfl) <| AM.qv (q_move rfl) rfl <| AM.qv (q_move rfl) rfl <| bndE h fun v34 e15 h => AM.callp rfl (Q_ChangesFault_c e15) (.cons (Co.froT .p4) .nil) rfl <| AM.qv (q_load_ptr_all rfl rfl .p3 rfl) rfl <| bndE h fun v35 e16 h => AM.callp rfl (Q_StampFault_c e16) (CoL.refl _) rfl <| AM.buildSliceL (xs := ([v18, v34, v35] : List Int).map I) rfl rfl rfl rfl rfl rfl <| bndE h fun v36 e17 h => AM.callp rfl (L_errs_c e17) (CoL.refl _) rfl <| AM.qv (q_assign rfl) rfl <| AM.nil <| rN <| tSR <| rM rfl rfl <| ARun.qv (q_eql rfl rfl) rfl <| rN <| ATodo.cut (fun σ' => ∃ (n37 : Int) (l38 : List Cell) (l39 : List Cell), L_TwinsSettle_j5 v31 n37 l38 l39 = some r ∧ σ' = ⟨113, [(10, I n37), (12, .ptr b32 0), (13, I v31.2), (14, .ptr b33 0)], [(b32, .cells [.list 8 (v31.1.Desired.map Cell.av), .list 8 (v31.1.Reported.map Cell.av)]), (b33, .cells [.list 8 (l38.map Cell.av), .list 8 (l39.map Cell.av)])]⟩) ?_ ?_
            · refine ATodo.cond_d rfl (fun hc => ?_) (fun hc => ?_)
              · exact have h := iteT hc h; tR <| ARun.qv (q_load_ptr_all rfl rfl .p2 rfl) rfl <| rM rfl rfl <| ARun.qv (q_load_ptr_all rfl rfl .p3 rfl) rfl <| bndE h fun v40 e18 h => r_callp rfl (Q_TakeOf_c e18) (.cons (.refl _) (.cons (Co.froT .p4) (.cons (.refl _) .nil))) rfl <| rM rfl rfl <| rX rfl rfl rfl <| rX rfl rfl rfl <| n_store_ptr rfl rfl rfl rfl .p0 rfl rfl <| rA rfl rfl <| rN <| ATodo.stop <| ImpX.lq [1, 0] ⟨v40.2, v40.1.Desired, v40.1.Reported, h, rfl⟩ rfl rfl
              · exact have h := iteF hc h; tK <| ATodo.stop <| ImpX.nilBox (j := 0) 8 .p0 rfl rfl rfl <| ImpX.nilBox (j := 1) 8 .p0 rfl rfl rfl <| ImpX.lq [1, 0] ⟨v36, [], [], h, rfl⟩ rfl rfl
            · rintro σ' ⟨n37, l38, l39, h, rfl⟩
              unfold L_TwinsSettle_j5 at h
              refine tS <| ATodo.cut (fun σ' => ∃ (c41 : Bool), L_TwinsSettle_j6 c41 = some r ∧ σ' = ⟨113, [(2, .bool c41)], []⟩) ?_ ?_
              · refine tR <| rM rfl rfl <| rM rfl rfl <| ARun.qv (q_eql rfl rfl) rfl <| rM rfl rfl <| ARun.guard_dt rfl rfl rfl (fun hc => ?_) (fun hc => ?_)
                · refine have h := iteT hc h; ARun.qv (q_load_ptr_all rfl rfl .p0 rfl) rfl <| rY rfl rfl rfl <| ARun.qv (q_load_ptr_all rfl rfl .p1 rfl) rfl <| rY rfl rfl rfl <| bndE h fun v42 e19 h => r_callp rfl (Q_SameTwin_c e19) (CoL.refl _) rfl <| rT rfl rfl rfl <| rM rfl rfl <| ARun.guard rfl rfl rfl (fun hc => ?_) (fun hc => ?_)
                  · exact have h := iteT hc h; bndE h fun v43 e20 h => r_callp rfl (L_twinned_c e20) (CoL.refl _) rfl <| rT rfl rfl rfl <| rA rfl rfl <| rN <| ATodo.stop <| ImpX.lq [] ⟨v43, h, rfl⟩ rfl rfl
                  · exact have h := iteFb hc h; rE rfl rfl rfl <| rA rfl rfl <| rN <| ATodo.stop <| ImpX.lq [] ⟨false, h, rfl⟩ rfl rfl
                · exact have h := iteF hc h; rG rfl rfl rfl rfl <| rG rfl rfl rfl rfl <| rE rfl rfl rfl <| rM rfl rfl <| rG rfl rfl rfl rfl <| rE rfl rfl rfl <| rA rfl rfl <| rN <| ATodo.stop <| ImpX.lq [] ⟨false, h, rfl⟩ rfl rfl
              · rintro σ' ⟨c41, h, rfl⟩
                unfold L_TwinsSettle_j6 at h
                refine ATodo.ret <| ?_
                obtain rfl := Option.some.inj h
                exact ImpX.here ⟨_, .cons (.tmp _ _ rfl) .nil, rfl⟩

end Go.Proofs.YtmlgacejioccmaaGreatDoor

