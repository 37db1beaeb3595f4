/- The code computes the plain functions: proofs written by shal.py. -/
import Derived.Test.YtppnalkmokajgaaGreatDoorRloW1
set_option maxHeartbeats 4000000
set_option maxRecDepth 100000
set_option linter.unusedVariables false
set_option linter.unusedSimpArgs false
namespace Go.Proofs.YtppnalkmokajgaaGreatDoor
open Go Go.Eng Go.Proofs Go.Beacon
attribute [local irreducible] ARun ATodo AQ QV ACall ImpX AWp AM
theorem rule_State_c [GI : GTab] {p0x0 : Rule} {p1x0 : List Sample} {p2x0 : Str} {p3x0 : Int} {r : Int × Int} (h : rule_State p0x0 p1x0 p2x0 p3x0 = some r) : Pu Tryz.prog 38 [Rule.av p0x0,lE3 p1x0,.str p2x0,I p3x0] (.tup [I r.1,I r.2]) := by
  unfold rule_State at h
  refine ACall.bodyN Tryz.func38 J Tryz.ntmps38 Tryz.results38 J J ?_
  refine tSR<|n_box J J J J fun b1=>rA J J<|rA J J<|rN<|tS<|tSR<|ARun.qv (q_load_ptr_all J J .p0 J) J<|rM J J<|rM J J<|rM J J<|bndE h fun v2 e1 h=>r_callp J (rule_oneFault_c e1) (CoL.refl _) J<|rA J J<|rN<|tSR<|rM J J<|ARun.qv (q_neq J J) J<|rN<|ATodo.cond_d J (fun hc=>?_) (fun hc=>?_)
  · refine have h := iteT hc h; tSR<|rM J J<|rA J J<|rA J J<|rN<|ATodo.ret<|?_
    obtain rfl := Option.some.inj h
    exact ImpX.here ⟨_,.cons (.tmp _ _ J) (.cons (.tmp _ _ J) .nil),J⟩
  · refine have h := iteF hc h; tK<|tSR<|rM J J<|rM J J<|rM J J<|ARun.ghost<|ImpX.frzPtrL (ss := [4]) (by simp [lk]) .p0<|ImpX.here<|bndE h fun v3 e2 h=>t_call7 J (rule_standing_c e2) (CoL.refl _) .nil (fun _ _ _ _ _ _ _=>J) J fun b4 b5 r6 b7 r8 b9 r10=>ARun.qv (q_nilCheck_ptr J) J<|rF J J J<|rL J J .p0 J J<|rA J J<|rA J J<|rN<|ATodo.ret<|?_
    obtain rfl := Option.some.inj h
    exact ImpX.here ⟨_,.cons (.tmp _ _ J) (.cons (.tmp _ _ J) .nil),J⟩

theorem Q_in_c [GI : GTab] {p0x0 : Int} {p1x0 : Int} {p2x0 : Int} {r : Bool} (h : Q_in p0x0 p1x0 p2x0 = r) : Pu Tryz.prog 78 [I p0x0,I p1x0,I p2x0] (.bool r) := by
  unfold Q_in at h
  refine ACall.bodyN Tryz.func78 J Tryz.ntmps78 Tryz.results78 J J ?_
  refine tSR<|rA J J<|rN<|tS<|ATodo.cut (fun σ'=>∃ (c1 : Bool),Q_in_j1 c1 = r ∧ σ' = ⟨15,[(6,.bool c1)],[]⟩) ?_ ?_
  · refine tR<|rM J J<|rM J J<|ARun.qv (q_leq J J) J<|rM J J<|ARun.guard_dt J J J (fun hc=>?_) (fun hc=>?_)
    · rw [andTd hc] at h
      exact rM J J<|rY J J J<|rM J J<|rY J J J<|ARun.qv (q_leq J J) J<|rT J J J<|rA J J<|rN<|ATodo.stop<|ImpX.lq [] ⟨decide (p0x0 ≤ p2x0),h,J⟩ J J
    · rw [andFd hc] at h
      exact rG J J J J<|rG J J J J<|rE J J J<|rA J J<|rN<|ATodo.stop<|ImpX.lq [] ⟨false,h,J⟩ J J
  · rintro σ' ⟨c1, h, rfl⟩
    unfold Q_in_j1 at h
    refine ATodo.ret<|?_
    obtain rfl := h
    exact ImpX.here ⟨_,.cons (.tmp _ _ J) .nil,J⟩

theorem Q_MomentFault_c [GI : GTab] {p0x0 : Int} {r : Int} (h : Q_MomentFault p0x0 = r) : Pu Tryz.prog 21 [I p0x0] (I r) := by
  unfold Q_MomentFault at h
  refine ACall.bodyN Tryz.func21 J Tryz.ntmps21 Tryz.results21 J J ?_
  refine tSR<|rA J J<|rN<|tS<|tSR<|rM J J<|r_callp J (Q_in_c J) (CoL.refl _) J<|ARun.qv (q_not J) J<|rN<|ATodo.cond J (fun hc=>?_) (fun hc=>?_)
  · refine have h := iteT hc h; tSR<|rA J J<|rN<|ATodo.ret<|?_
    obtain rfl := h
    exact ImpX.here ⟨_,.cons (.tmp _ _ J) .nil,J⟩
  · refine have h := iteFb hc h; tK<|tSR<|rA J J<|rN<|ATodo.ret<|?_
    obtain rfl := h
    exact ImpX.here ⟨_,.cons (.tmp _ _ J) .nil,J⟩

theorem Q_Key_c {p0x0 : Str} {r : Bool} (h : Q_Key p0x0 = some r) : Pu Tryz.prog 79 [.str p0x0] (.bool r) := by
  unfold Q_Key at h
  refine ACall.bodyN Tryz.func79 J Tryz.ntmps79 Tryz.results79 J J ?_
  refine tSR<|rA J J<|rN<|tS<|ATodo.cut (fun σ'=>∃ (c1 : Bool),Q_Key_j1 c1 = some r ∧ σ' = ⟨17,[(2,.bool c1)],[]⟩) ?_ ?_
  · refine tR<|rM J J<|ARun.qv (q_len_str J) J<|r_callp J (Q_in_c J) (CoL.refl _) J<|rM J J<|ARun.guard J J J (fun hc=>?_) (fun hc=>?_)
    · refine have h := iteT hc h; rM J J<|rY J J J<|bndE h fun v2 e1 h=>r_callp J (strings_Trim_c e1) (CoL.refl _) J<|rY J J J<|ARun.qv (q_seq J J) J<|rT J J J<|rM J J<|ARun.guard_dt J J J (fun hc=>?_) (fun hc=>?_)
      · exact have h := iteT hc h; rM J J<|rY J J J<|bndE h fun c3 e2 h=>ARun.qv (t_index_str J J e2) J<|rY J J J<|r_callp J (strings_IndexByte_c J) (CoL.refl _) J<|rY J J J<|ARun.qv (q_geq J J) J<|rT J J J<|rA J J<|rN<|ATodo.stop<|ImpX.lq [] ⟨decide ((0 : Int) ≤ (indexByteI ([97,98,99,100,101,102,103,104,105,106,107,108,109,110,111,112,113,114,115,116,117,118,119,120,121,122] : Str) (c3.toNat : Int))),h,J⟩ J J
      · exact have h := iteF hc h; rG J J J J<|rG J J J J<|rG J J J J<|rE J J J<|rA J J<|rN<|ATodo.stop<|ImpX.lq [] ⟨false,h,J⟩ J J
    · exact have h := iteFb hc h; rG J J J J<|rG J J J J<|rE J J J<|rM J J<|rG J J J J<|rG J J J J<|rG J J J J<|rG J J J J<|rE J J J<|rA J J<|rN<|ATodo.stop<|ImpX.lq [] ⟨false,h,J⟩ J J
  · rintro σ' ⟨c1, h, rfl⟩
    unfold Q_Key_j1 at h
    refine ATodo.ret<|?_
    obtain rfl := Option.some.inj h
    exact ImpX.here ⟨_,.cons (.tmp _ _ J) .nil,J⟩

theorem Q_SampleFault_c {p0x0 : Sample} {r : Int} (h : Q_SampleFault p0x0 = some r) : Pu Tryz.prog 80 [Sample.av p0x0] (I r) := by
  unfold Q_SampleFault at h
  refine ACall.bodyN Tryz.func80 J Tryz.ntmps80 Tryz.results80 J J ?_
  refine tSR<|n_box J J J J fun b1=>rA J J<|rN<|tS<|ATodo.block<|tSR<|rF J J J<|rL J J .p0 J J<|r_callp J (Q_MomentFault_c J) (CoL.refl _) J<|ARun.qv (q_neq J J) J<|rA J J<|rN<|ATodo.cond_d J (fun hc=>?_) (fun hc=>?_)
  · refine have h := iteT hc h; tSR<|rA J J<|rN<|ATodo.ret<|?_
    obtain rfl := Option.some.inj h
    exact ImpX.here ⟨_,.cons (.tmp _ _ J) .nil,J⟩
  · refine have h := iteF hc h; tS<|ATodo.cut (fun σ'=>∃ (c2 : Bool),Q_SampleFault_j1 p0x0 c2 = some r ∧ σ' = ⟨24,[(1,.ptr b1 0),(8,.bool c2)],[(b1,.cells (cE0 p0x0))]⟩) ?_ ?_
    · refine tR<|rF J J J<|rL J J .p0 J J<|bndE h fun v3 e1 h=>r_callp J (Q_Key_c e1) (CoL.refl _) J<|ARun.qv (q_not J) J<|rM J J<|ARun.guard J J J (fun hc=>?_) (fun hc=>?_)
      · exact have h := iteFb hc h; rF J J J<|rY J J J<|rL J J .p0 J J<|rY J J J<|bndE h fun v4 e2 h=>r_callp J (Q_Key_c e2) (CoL.refl _) J<|rY J J J<|ARun.qv (q_not J) J<|rE J J J<|rA J J<|rN<|ATodo.stop<|ImpX.lq [0] ⟨!v4,h,J⟩ J J
      · exact have h := iteT hc h; rG J J J J<|rG J J J J<|rG J J J J<|rT J J J<|rA J J<|rN<|ATodo.stop<|ImpX.lq [0] ⟨true,h,J⟩ J J
    · rintro σ' ⟨c2, h, rfl⟩
      unfold Q_SampleFault_j1 at h
      refine ATodo.cond J (fun hc=>?_) (fun hc=>?_)
      · refine have h := iteT hc h; tSR<|rA J J<|rN<|ATodo.ret<|?_
        obtain rfl := Option.some.inj h
        exact ImpX.here ⟨_,.cons (.tmp _ _ J) .nil,J⟩
      · refine have h := iteFb hc h; tSR<|rF J J J<|rL J J .p0 J J<|r_callp J (Q_in_c J) (CoL.refl _) J<|ARun.qv (q_not J) J<|rA J J<|rN<|ATodo.cond J (fun hc=>?_) (fun hc=>?_)
        · refine have h := iteT hc h; tSR<|rA J J<|rN<|ATodo.ret<|?_
          obtain rfl := Option.some.inj h
          exact ImpX.here ⟨_,.cons (.tmp _ _ J) .nil,J⟩
        · refine have h := iteFb hc h; tK<|ATodo.blk<|tSR<|rA J J<|rN<|ATodo.ret<|?_
          obtain rfl := Option.some.inj h
          exact ImpX.here ⟨_,.cons (.tmp _ _ J) .nil,J⟩

theorem Q_SampleOrder_c [GI : GTab] {p0x0 : Sample} {p1x0 : Sample} {r : Int} (h : Q_SampleOrder p0x0 p1x0 = some r) : Pu Tryz.prog 81 [Sample.av p0x0,Sample.av p1x0] (I r) := by
  unfold Q_SampleOrder at h
  refine ACall.bodyN Tryz.func81 J Tryz.ntmps81 Tryz.results81 J J ?_
  refine tSR<|n_box J J J J fun b1=>n_box J J J J fun b2=>rA J J<|rN<|tS<|ATodo.regionM (id := 1) (A := [0,1,0,4,15,0,32,0,128,511,0,1024,0,4096,16383,32767,65535,131071]) 18 mixed J (by kernel_rfl) (by kernel_rfl)<|AM.qv (n_field_ptr J J) J<|AM.qv (q_load_ptr J J .p1 J) J<|AM.qv (n_field_ptr J J) J<|AM.qv (q_load_ptr J J .p0 J) J<|AM.callp J (cmp_Compare_int_c J) (CoL.refl _) J<|AM.qv (n_field_ptr J J) J<|AM.qv (q_load_ptr J J .p1 J) J<|AM.qv (n_field_ptr J J) J<|AM.qv (q_load_ptr J J .p0 J) J<|AM.callp J (strings_Compare_c J) (CoL.refl _) J<|AM.qv (n_field_ptr J J) J<|AM.qv (q_load_ptr J J .p1 J) J<|AM.qv (n_field_ptr J J) J<|AM.qv (q_load_ptr J J .p0 J) J<|AM.callp J (strings_Compare_c J) (CoL.refl _) J<|AM.buildSliceL (xs := ([(cmp_Compare_int p0x0.At p1x0.At),(Lib.compareBytes p0x0.Device p1x0.Device),(Lib.compareBytes p0x0.Metric p1x0.Metric)] : List Int).map I) J J J J J J<|bndE h fun v3 e1 h=>AM.callp J (cmp_Or_int_c e1) (CoL.refl _) J<|AM.qv (q_assign J) J<|AM.nil<|rN<|ATodo.ret<|?_
  obtain rfl := Option.some.inj h
  exact ImpX.here ⟨_,.cons (.tmp _ _ J) .nil,J⟩

theorem Q_SamplesFault_c {p0x0 : List Sample} {r : Int} (h : Q_SamplesFault p0x0 = some r) : Pu Tryz.prog 19 [lE3 p0x0] (I r) := by
  unfold Q_SamplesFault at h
  refine ACall.bodyN Tryz.func19 J Tryz.ntmps19 Tryz.results19 J J ?_
  refine tSR<|rA J J<|rN<|tS<|tSR<|rM J J<|ARun.qv (t_len J) J<|ARun.qv (q_gtr J J) J<|rN<|ATodo.cond_d J (fun hc=>?_) (fun hc=>?_)
  · refine have h := iteT hc h; tSR<|rA J J<|rN<|ATodo.ret<|?_
    obtain rfl := Option.some.inj h
    exact ImpX.here ⟨_,.cons (.tmp _ _ J) .nil,J⟩
  · refine have h := iteF hc h; tK<|tS<|tSR<|rM J J<|ARun.qv (t_len J) J<|rM J J<|rN<|ATodo.block<|ATodo.loopI (fun x : Int=>Q_SamplesFault_b1 p0x0 x) (fun x σ'=>σ' = ⟨34,[(0,lE3 p0x0),(9,lE3 p0x0),(10,I (p0x0.length : Int)),(11,I x)],[]⟩) h ?_ ?_
    · exact ImpX.lq [] J J J
    · intro n2 z1 σ' J1 hmk h hJ1 hA1
      obtain rfl := hmk
      replace h : Q_SamplesFault_b1 p0x0 n2 = some z1 := h
      unfold Q_SamplesFault_b1 at h
      refine tSR<|ARun.qv (q_lss J J) J<|rN<|tS<|ATodo.cond_d J (fun hc=>?_) (fun hc=>?_)
      · refine have h := iteT hc h; tK<|tS<|ATodo.block<|tSR<|rM J J<|bndE h fun v3 e1 h=>ARun.qv (t_index J J J e1 J J) J<|ARun.qv (q_load_rptr_agg J J J) J<|n_alloc J J J J fun b4=>rA J J<|n_store_ptr J J J J .p0 J J<|rN<|tS<|tSR<|ARun.qv (q_load_ptr_all J J .p0 J) J<|bndE h fun v5 e2 h=>r_callp J (Q_SampleFault_c e2) (CoL.refl _) J<|rA J J<|rN<|tSR<|rM J J<|ARun.qv (q_neq J J) J<|rN<|ATodo.cond_d J (fun hc=>?_) (fun hc=>?_)
        · refine have h := iteT hc h; tSR<|rM J J<|rA J J<|rN<|ATodo.ret<|have h := outL h hA1; ?_
          obtain rfl := Option.some.inj h
          exact ImpX.here ⟨_,.cons (.tmp _ _ J) .nil,J⟩
        · refine have h := iteF hc h; tK<|tS<|ATodo.cut (fun σ'=>∃ (c6 : Bool),Q_SamplesFault_j1 n2 c6 = some z1 ∧ σ' = ⟨34,[(0,lE3 p0x0),(9,lE3 p0x0),(10,I (p0x0.length : Int)),(11,I n2),(32,.bool c6)],[]⟩) ?_ ?_
          · refine ATodo.regionM (id := 9) (A := [0,1,3,7,7,23,63,127,7,511,1023,2047]) 12 mixed J (by kernel_rfl) (by kernel_rfl)<|AM.qv (q_move J) J<|AM.qv (q_gtr J J) J<|AM.qv (q_move J) J<|AM.guard_dt J J J (fun hc=>?_) (fun hc=>?_)
            · exact have h := iteT hc h; AM.qv (q_move J) J<|AM.guard_yes J J J<|AM.qv (q_move J) J<|AM.guard_yes J J J<|AM.qv (q_subw J J) J<|AM.guard_yes J J J<|bndE h fun v7 e3 h=>AM.qv (t_index J J J e3 J J) J<|AM.guard_yes J J J<|AM.qv (q_load_rptr_agg J J J) J<|AM.guard_yes J J J<|AM.qv (q_load_ptr_all J J .p0 J) J<|AM.guard_yes J J J<|bndE h fun v8 e4 h=>AM.callp J (Q_SampleOrder_c e4) (CoL.refl _) J<|AM.guard_yes J J J<|AM.qv (q_geq J J) J<|AM.qv (q_pick_t J J) J<|AM.nil<|rN<|ATodo.stop<|ImpX.lq [] ⟨decide ((0 : Int) ≤ v8),h,J⟩ J J
            · exact have h := iteF hc h; AM.guard_no J J J J<|AM.guard_no J J J J<|AM.guard_no J J J J<|AM.guard_no J J J J<|AM.guard_no J J J J<|AM.guard_no J J J J<|AM.guard_no J J J J<|AM.qv (q_pick_f J J) J<|AM.nil<|rN<|ATodo.stop<|ImpX.lq [] ⟨false,h,J⟩ J J
          · rintro σ' ⟨c6, h, rfl⟩
            unfold Q_SamplesFault_j1 at h
            refine ATodo.cond J (fun hc=>?_) (fun hc=>?_)
            · refine have h := iteT hc h; tSR<|rA J J<|rN<|ATodo.ret<|have h := outL h hA1; ?_
              obtain rfl := Option.some.inj h
              exact ImpX.here ⟨_,.cons (.tmp _ _ J) .nil,J⟩
            · refine have h := iteFb hc h; tK<|ATodo.blk<|tR<|ARun.qv (q_addw J J) J<|rM J J<|rN<|ATodo.stop<|?_
              obtain rfl := Option.some.inj h
              exact hJ1 _ _ J<|ImpX.lq [] J J J
      · refine have h := iteF hc h; ATodo.exit J<|have h := outL h hA1; tSR<|rA J J<|rN<|ATodo.ret<|?_
        obtain rfl := Option.some.inj h
        exact ImpX.here ⟨_,.cons (.tmp _ _ J) .nil,J⟩

theorem Q_RulesFault_1x_c [GI : GTab] {p0x0 : Int} {r : Bool} (h : Q_RulesFault_1x p0x0 = r) : Pu Tryz.prog 77 [I p0x0] (.bool r) := by
  unfold Q_RulesFault_1x at h
  refine ACall.bodyN Tryz.func77 J Tryz.ntmps77 Tryz.results77 J J ?_
  refine tSR<|rA J J<|rN<|tSR<|rM J J<|r_callp J (Q_in_c J) (CoL.refl _) J<|rA J J<|rN<|ATodo.ret<|?_
  obtain rfl := h
  exact ImpX.here ⟨_,.cons (.tmp _ _ J) .nil,J⟩

theorem Q_RulesFault_c {p0x0 : List Rule} {r : Int} (h : Q_RulesFault p0x0 = some r) : Pu Tryz.prog 18 [lE2 p0x0] (I r) := by
  unfold Q_RulesFault at h
  refine ACall.bodyN Tryz.func18 J Tryz.ntmps18 Tryz.results18 J J ?_
  refine tSR<|rA J J<|rN<|tS<|tSR<|rM J J<|ARun.qv (t_len J) J<|ARun.qv (q_gtr J J) J<|rN<|ATodo.cond_d J (fun hc=>?_) (fun hc=>?_)
  · refine have h := iteT hc h; tSR<|rA J J<|rN<|ATodo.ret<|?_
    obtain rfl := Option.some.inj h
    exact ImpX.here ⟨_,.cons (.tmp _ _ J) .nil,J⟩
  · refine have h := iteF hc h; tK<|tSR<|rA J J<|rN<|tS<|tSR<|rM J J<|ARun.qv (t_len J) J<|rM J J<|rN<|ATodo.block<|ATodo.loopI (fun x : Int=>Q_RulesFault_b1 p0x0 x) (fun x σ'=>σ' = ⟨105,[(0,lE2 p0x0),(3,.func (.func 77) []),(9,lE2 p0x0),(10,I (p0x0.length : Int)),(11,I x)],[]⟩) h ?_ ?_
    · exact ImpX.lq [] J J J
    · intro n2 z1 σ' J1 hmk h hJ1 hA1
      obtain rfl := hmk
      replace h : Q_RulesFault_b1 p0x0 n2 = some z1 := h
      unfold Q_RulesFault_b1 at h
      refine tSR<|ARun.qv (q_lss J J) J<|rN<|tS<|ATodo.cond_d J (fun hc=>?_) (fun hc=>?_)
      · refine have h := iteT hc h; tK<|tS<|ATodo.block<|tSR<|rM J J<|bndE h fun v3 e1 h=>ARun.qv (t_index J J J e1 J J) J<|ARun.qv (q_load_rptr_agg J J J) J<|n_alloc J J J J fun b4=>rA J J<|n_store_ptr J J J J .p0 J J<|rN<|ATodo.block<|tSR<|rF J J J<|rL J J .p0 J J<|bndE h fun v5 e2 h=>r_callp J (Q_Key_c e2) (CoL.refl _) J<|ARun.qv (q_not J) J<|rA J J<|rN<|ATodo.cond J (fun hc=>?_) (fun hc=>?_)
        · refine have h := iteT hc h; tSR<|rA J J<|rN<|ATodo.ret<|have h := outL h hA1; ?_
          obtain rfl := Option.some.inj h
          exact ImpX.here ⟨_,.cons (.tmp _ _ J) .nil,J⟩
        · refine have h := iteFb hc h; tS<|ATodo.cut (fun σ'=>∃ (c6 : Bool),Q_RulesFault_j1 n2 v3 c6 = some z1 ∧ σ' = ⟨105,[(0,lE2 p0x0),(3,.func (.func 77) []),(5,.ptr b4 0),(9,lE2 p0x0),(10,I (p0x0.length : Int)),(11,I n2),(21,.bool c6)],[(b4,.cells (cE1 v3))]⟩) ?_ ?_
          · refine ATodo.regionM (id := 9) (A := [0,1,3,7,15,7,7,71,231,487,999,2047,4095,8191]) 14 mixed J (by kernel_rfl) (by kernel_rfl)<|AM.qv (q_move J) J<|AM.qv (q_gtr J J) J<|AM.qv (q_move J) J<|AM.guard_dt J J J (fun hc=>?_) (fun hc=>?_)
            · exact have h := iteT hc h; AM.qv (n_field_ptr J J) J<|AM.guard_yes J J J<|AM.qv (q_load_ptr J J .p0 J) J<|AM.guard_yes J J J<|AM.qv (q_move J) J<|AM.guard_yes J J J<|AM.qv (q_move J) J<|AM.guard_yes J J J<|AM.qv (q_subw J J) J<|AM.guard_yes J J J<|bndE h fun v7 e3 h=>AM.qv (t_index J J J e3 J J) J<|AM.guard_yes J J J<|AM.qv (n_field_rptr J J) J<|AM.guard_yes J J J<|AM.qv (q_load_rptr J J J) J<|AM.guard_yes J J J<|AM.qv (t_sleq J J) J<|AM.qv (q_pick_t J J) J<|AM.qv (q_assign J) J<|AM.nil<|rN<|ATodo.stop<|ImpX.lq [0] ⟨Op.bytesLess v3.Key v7.Key || v3.Key == v7.Key,h,J⟩ J J
            · exact have h := iteF hc h; AM.guard_no J J J J<|AM.guard_no J J J J<|AM.guard_no J J J J<|AM.guard_no J J J J<|AM.guard_no J J J J<|AM.guard_no J J J J<|AM.guard_no J J J J<|AM.guard_no J J J J<|AM.qv (q_pick_f J J) J<|AM.qv (q_assign J) J<|AM.nil<|rN<|ATodo.stop<|ImpX.lq [0] ⟨false,h,J⟩ J J
          · rintro σ' ⟨c6, h, rfl⟩
            unfold Q_RulesFault_j1 at h
            refine ATodo.cond J (fun hc=>?_) (fun hc=>?_)
            · refine have h := iteT hc h; tSR<|rA J J<|rN<|ATodo.ret<|have h := outL h hA1; ?_
              obtain rfl := Option.some.inj h
              exact ImpX.here ⟨_,.cons (.tmp _ _ J) .nil,J⟩
            · refine have h := iteFb hc h; tSR<|rF J J J<|rL J J .p0 J J<|bndE h fun v8 e4 h=>r_callp J (Q_Key_c e4) (CoL.refl _) J<|ARun.qv (q_not J) J<|rA J J<|rN<|ATodo.cond J (fun hc=>?_) (fun hc=>?_)
              · refine have h := iteT hc h; tSR<|rA J J<|rN<|ATodo.ret<|have h := outL h hA1; ?_
                obtain rfl := Option.some.inj h
                exact ImpX.here ⟨_,.cons (.tmp _ _ J) .nil,J⟩
              · refine have h := iteFb hc h; tSR<|rF J J J<|rL J J .p0 J J<|r_callp J (Q_in_c J) (CoL.refl _) J<|ARun.qv (q_not J) J<|rA J J<|rN<|ATodo.cond J (fun hc=>?_) (fun hc=>?_)
                · refine have h := iteT hc h; tSR<|rA J J<|rN<|ATodo.ret<|have h := outL h hA1; ?_
                  obtain rfl := Option.some.inj h
                  exact ImpX.here ⟨_,.cons (.tmp _ _ J) .nil,J⟩
                · refine have h := iteFb hc h; tS<|ATodo.cut (fun σ'=>∃ (c9 : Bool),Q_RulesFault_j2 n2 v3 c9 = some z1 ∧ σ' = ⟨105,[(0,lE2 p0x0),(3,.func (.func 77) []),(5,.ptr b4 0),(9,lE2 p0x0),(10,I (p0x0.length : Int)),(11,I n2),(45,.bool c9)],[(b4,.cells (cE1 v3))]⟩) ?_ ?_
                  · refine tR<|rF J J J<|rL J J .p0 J J<|r_callp J (Q_in_c J) (CoL.refl _) J<|ARun.qv (q_not J) J<|rM J J<|ARun.guard J J J (fun hc=>?_) (fun hc=>?_)
                    · rw [orFb hc] at h
                      refine rM J J<|rY J J J<|rF J J J<|rY J J J<|rL J J .p0 J J<|rY J J J<|r_callvp J J (Q_RulesFault_1x_c J) (CoL.refl _) J<|rY J J J<|ARun.qv (q_not J) J<|rE J J J<|rM J J<|ARun.guard J J J (fun hc=>?_) (fun hc=>?_)
                      · rw [orFb hc] at h
                        refine rM J J<|rY J J J<|rF J J J<|rY J J J<|rL J J .p0 J J<|rY J J J<|r_callvp J J (Q_RulesFault_1x_c J) (CoL.refl _) J<|rY J J J<|ARun.qv (q_not J) J<|rE J J J<|rM J J<|ARun.guard J J J (fun hc=>?_) (fun hc=>?_)
                        · rw [orFb hc] at h
                          refine rF J J J<|rY J J J<|rL J J .p0 J J<|rY J J J<|rM J J<|ARun.guard J J J (fun hc=>?_) (fun hc=>?_)
                          · rw [if_pos hc] at h
                            refine rF J J J<|rY J J J<|rL J J .p0 J J<|rY J J J<|rF J J J<|rY J J J<|rL J J .p0 J J<|rY J J J<|ARun.qv (q_gtr J J) J<|rY J J J<|rT J J J<|rE J J J<|rM J J<|ARun.guard_df J J J (fun hc=>?_) (fun hc=>?_)
                            · rw [orFd hc] at h
                              refine rF J J J<|rY J J J<|rL J J .p0 J J<|rY J J J<|ARun.qv (q_not J) J<|rY J J J<|rM J J<|ARun.guard J J J (fun hc=>?_) (fun hc=>?_)
                              · rw [if_pos hc] at h
                                refine rF J J J<|rY J J J<|rL J J .p0 J J<|rY J J J<|rF J J J<|rY J J J<|rL J J .p0 J J<|rY J J J<|ARun.qv (q_lss J J) J<|rY J J J<|rT J J J<|rE J J J<|rM J J<|ARun.guard_df J J J (fun hc=>?_) (fun hc=>?_)
                                · rw [orFd hc] at h
                                  refine rF J J J<|rY J J J<|rL J J .p0 J J<|rY J J J<|r_callp J (Q_in_c J) (CoL.refl _) J<|rY J J J<|ARun.qv (q_not J) J<|rE J J J<|rM J J<|ARun.guard J J J (fun hc=>?_) (fun hc=>?_)
                                  · rw [orFb hc] at h
                                    exact rF J J J<|rY J J J<|rL J J .p0 J J<|rY J J J<|r_callp J (Q_in_c J) (CoL.refl _) J<|rY J J J<|ARun.qv (q_not J) J<|rE J J J<|rA J J<|rN<|ATodo.stop<|ImpX.lq [0] ⟨!(Q_in v3.Rest (0 : Int) (2592000000 : Int)),h,J⟩ J J
                                  · rw [orTb hc] at h
                                    exact rG J J J J<|rG J J J J<|rG J J J J<|rT J J J<|rA J J<|rN<|ATodo.stop<|ImpX.lq [0] ⟨true,h,J⟩ J J
                                · rw [orTd hc] at h
                                  exact rG J J J J<|rG J J J J<|rG J J J J<|rT J J J<|rM J J<|rG J J J J<|rG J J J J<|rG J J J J<|rG J J J J<|rT J J J<|rA J J<|rN<|ATodo.stop<|ImpX.lq [0] ⟨true,h,J⟩ J J
                              · rw [if_neg (by simp [hc] : ¬ (_ = true))] at h
                                refine rG J J J J<|rG J J J J<|rG J J J J<|rG J J J J<|rY J J J<|rE J J J<|rE J J J<|rM J J<|rY J J J<|rF J J J<|rY J J J<|rL J J .p0 J J<|rY J J J<|r_callp J (Q_in_c J) (CoL.refl _) J<|rY J J J<|ARun.qv (q_not J) J<|rE J J J<|rM J J<|ARun.guard J J J (fun hc=>?_) (fun hc=>?_)
                                · rw [orFb hc] at h
                                  exact rF J J J<|rY J J J<|rL J J .p0 J J<|rY J J J<|r_callp J (Q_in_c J) (CoL.refl _) J<|rY J J J<|ARun.qv (q_not J) J<|rE J J J<|rA J J<|rN<|ATodo.stop<|ImpX.lq [0] ⟨!(Q_in v3.Rest (0 : Int) (2592000000 : Int)),h,J⟩ J J
                                · rw [orTb hc] at h
                                  exact rG J J J J<|rG J J J J<|rG J J J J<|rT J J J<|rA J J<|rN<|ATodo.stop<|ImpX.lq [0] ⟨true,h,J⟩ J J
                            · rw [orTd hc] at h
                              exact rG J J J J<|rG J J J J<|rG J J J J<|ARun.guard_und J J J<|ARun.guard_und J J J<|ARun.guard_und J J J<|ARun.guard_und J J J<|ARun.guard_und J J J<|rG J J J J<|rT J J J<|rM J J<|rG J J J J<|rG J J J J<|rG J J J J<|rG J J J J<|rT J J J<|rM J J<|rG J J J J<|rG J J J J<|rG J J J J<|rG J J J J<|rT J J J<|rA J J<|rN<|ATodo.stop<|ImpX.lq [0] ⟨true,h,J⟩ J J
                          · rw [if_neg (by simp [hc] : ¬ (_ = true))] at h
                            refine rG J J J J<|rG J J J J<|rG J J J J<|rG J J J J<|rY J J J<|rE J J J<|rE J J J<|rM J J<|rY J J J<|rF J J J<|rY J J J<|rL J J .p0 J J<|rY J J J<|ARun.qv (q_not J) J<|rY J J J<|rM J J<|ARun.guard J J J (fun hc=>?_) (fun hc=>?_)
                            · rw [if_pos hc] at h
                              refine rF J J J<|rY J J J<|rL J J .p0 J J<|rY J J J<|rF J J J<|rY J J J<|rL J J .p0 J J<|rY J J J<|ARun.qv (q_lss J J) J<|rY J J J<|rT J J J<|rE J J J<|rM J J<|ARun.guard_df J J J (fun hc=>?_) (fun hc=>?_)
                              · rw [orFd hc] at h
                                refine rF J J J<|rY J J J<|rL J J .p0 J J<|rY J J J<|r_callp J (Q_in_c J) (CoL.refl _) J<|rY J J J<|ARun.qv (q_not J) J<|rE J J J<|rM J J<|ARun.guard J J J (fun hc=>?_) (fun hc=>?_)
                                · rw [orFb hc] at h
                                  exact rF J J J<|rY J J J<|rL J J .p0 J J<|rY J J J<|r_callp J (Q_in_c J) (CoL.refl _) J<|rY J J J<|ARun.qv (q_not J) J<|rE J J J<|rA J J<|rN<|ATodo.stop<|ImpX.lq [0] ⟨!(Q_in v3.Rest (0 : Int) (2592000000 : Int)),h,J⟩ J J
                                · rw [orTb hc] at h
                                  exact rG J J J J<|rG J J J J<|rG J J J J<|rT J J J<|rA J J<|rN<|ATodo.stop<|ImpX.lq [0] ⟨true,h,J⟩ J J
                              · rw [orTd hc] at h
                                exact rG J J J J<|rG J J J J<|rG J J J J<|rT J J J<|rM J J<|rG J J J J<|rG J J J J<|rG J J J J<|rG J J J J<|rT J J J<|rA J J<|rN<|ATodo.stop<|ImpX.lq [0] ⟨true,h,J⟩ J J
                            · rw [if_neg (by simp [hc] : ¬ (_ = true))] at h
                              refine rG J J J J<|rG J J J J<|rG J J J J<|rG J J J J<|rY J J J<|rE J J J<|rE J J J<|rM J J<|rY J J J<|rF J J J<|rY J J J<|rL J J .p0 J J<|rY J J J<|r_callp J (Q_in_c J) (CoL.refl _) J<|rY J J J<|ARun.qv (q_not J) J<|rE J J J<|rM J J<|ARun.guard J J J (fun hc=>?_) (fun hc=>?_)
                              · rw [orFb hc] at h
                                exact rF J J J<|rY J J J<|rL J J .p0 J J<|rY J J J<|r_callp J (Q_in_c J) (CoL.refl _) J<|rY J J J<|ARun.qv (q_not J) J<|rE J J J<|rA J J<|rN<|ATodo.stop<|ImpX.lq [0] ⟨!(Q_in v3.Rest (0 : Int) (2592000000 : Int)),h,J⟩ J J
                              · rw [orTb hc] at h
                                exact rG J J J J<|rG J J J J<|rG J J J J<|rT J J J<|rA J J<|rN<|ATodo.stop<|ImpX.lq [0] ⟨true,h,J⟩ J J
                        · rw [orTb hc] at h
                          exact rG J J J J<|rG J J J J<|ARun.guard_und J J J<|ARun.guard_und J J J<|ARun.guard_und J J J<|ARun.guard_und J J J<|ARun.guard_und J J J<|rG J J J J<|rT J J J<|rM J J<|rG J J J J<|rG J J J J<|rG J J J J<|rG J J J J<|ARun.guard_und J J J<|ARun.guard_und J J J<|ARun.guard_und J J J<|ARun.guard_und J J J<|ARun.guard_und J J J<|rG J J J J<|rT J J J<|rM J J<|rG J J J J<|rG J J J J<|rG J J J J<|rG J J J J<|rT J J J<|rM J J<|rG J J J J<|rG J J J J<|rG J J J J<|rG J J J J<|rT J J J<|rA J J<|rN<|ATodo.stop<|ImpX.lq [0] ⟨true,h,J⟩ J J
                      · rw [orTb hc] at h
                        exact rG J J J J<|rG J J J J<|rG J J J J<|rG J J J J<|rT J J J<|rM J J<|rG J J J J<|rG J J J J<|rG J J J J<|ARun.guard_und J J J<|ARun.guard_und J J J<|ARun.guard_und J J J<|ARun.guard_und J J J<|ARun.guard_und J J J<|rG J J J J<|rT J J J<|rM J J<|rG J J J J<|rG J J J J<|rG J J J J<|rG J J J J<|ARun.guard_und J J J<|ARun.guard_und J J J<|ARun.guard_und J J J<|ARun.guard_und J J J<|ARun.guard_und J J J<|rG J J J J<|rT J J J<|rM J J<|rG J J J J<|rG J J J J<|rG J J J J<|rG J J J J<|rT J J J<|rM J J<|rG J J J J<|rG J J J J<|rG J J J J<|rG J J J J<|rT J J J<|rA J J<|rN<|ATodo.stop<|ImpX.lq [0] ⟨true,h,J⟩ J J
                    · rw [orTb hc] at h
                      exact rG J J J J<|rG J J J J<|rG J J J J<|rG J J J J<|rT J J J<|rM J J<|rG J J J J<|rG J J J J<|rG J J J J<|rG J J J J<|rG J J J J<|rT J J J<|rM J J<|rG J J J J<|rG J J J J<|rG J J J J<|ARun.guard_und J J J<|ARun.guard_und J J J<|ARun.guard_und J J J<|ARun.guard_und J J J<|ARun.guard_und J J J<|rG J J J J<|rT J J J<|rM J J<|rG J J J J<|rG J J J J<|rG J J J J<|rG J J J J<|ARun.guard_und J J J<|ARun.guard_und J J J<|ARun.guard_und J J J<|ARun.guard_und J J J<|ARun.guard_und J J J<|rG J J J J<|rT J J J<|rM J J<|rG J J J J<|rG J J J J<|rG J J J J<|rG J J J J<|rT J J J<|rM J J<|rG J J J J<|rG J J J J<|rG J J J J<|rG J J J J<|rT J J J<|rA J J<|rN<|ATodo.stop<|ImpX.lq [0] ⟨true,h,J⟩ J J
                  · rintro σ' ⟨c9, h, rfl⟩
                    unfold Q_RulesFault_j2 at h
                    refine ATodo.cond J (fun hc=>?_) (fun hc=>?_)
                    · refine have h := iteT hc h; tSR<|rA J J<|rN<|ATodo.ret<|have h := outL h hA1; ?_
                      obtain rfl := Option.some.inj h
                      exact ImpX.here ⟨_,.cons (.tmp _ _ J) .nil,J⟩
                    · refine have h := iteFb hc h; tSR<|rF J J J<|rL J J .p0 J J<|r_callp J (Q_in_c J) (CoL.refl _) J<|ARun.qv (q_not J) J<|rA J J<|rN<|ATodo.cond J (fun hc=>?_) (fun hc=>?_)
                      · refine have h := iteT hc h; tSR<|rA J J<|rN<|ATodo.ret<|have h := outL h hA1; ?_
                        obtain rfl := Option.some.inj h
                        exact ImpX.here ⟨_,.cons (.tmp _ _ J) .nil,J⟩
                      · refine have h := iteFb hc h; tK<|ATodo.blk<|ATodo.blk<|tR<|ARun.qv (q_addw J J) J<|rM J J<|rN<|ATodo.stop<|?_
                        obtain rfl := Option.some.inj h
                        exact hJ1 _ _ J<|ImpX.lq [] J J J
      · refine have h := iteF hc h; ATodo.exit J<|have h := outL h hA1; tSR<|rA J J<|rN<|ATodo.ret<|?_
        obtain rfl := Option.some.inj h
        exact ImpX.here ⟨_,.cons (.tmp _ _ J) .nil,J⟩

theorem cmp_Or_Errno_c [GI : GTab] {p0x0 : List Int} {r : Int} (h : cmp_Or_Errno p0x0 = some r) : Pu Tryz.prog 17 [lE0 p0x0] (I r) := by
  unfold cmp_Or_Errno at h
  refine ACall.bodyN Tryz.func17 J Tryz.ntmps17 Tryz.results17 J J ?_
  refine tSR<|rA J J<|rN<|tSR<|rA J J<|rN<|tS<|tSR<|rM J J<|ARun.qv (t_len J) J<|rM J J<|rN<|ATodo.block<|ATodo.loopI (fun x : Int=>cmp_Or_Errno_b1 p0x0 x) (fun x σ'=>σ' = ⟨18,[(3,I (0 : Int)),(6,lE0 p0x0),(7,I (p0x0.length : Int)),(8,I x)],[]⟩) h ?_ ?_
  · exact ImpX.lq [] J J J
  · intro n2 z1 σ' J1 hmk h hJ1 hA1
    obtain rfl := hmk
    replace h : cmp_Or_Errno_b1 p0x0 n2 = some z1 := h
    unfold cmp_Or_Errno_b1 at h
    refine tSR<|ARun.qv (q_lss J J) J<|rN<|tS<|ATodo.cond_d J (fun hc=>?_) (fun hc=>?_)
    · refine have h := iteT hc h; tK<|tS<|ATodo.block<|tSR<|bndE h fun v3 e1 h=>ARun.qv (t_index J J J e1 J J) J<|ARun.qv (q_load_rptr J J J) J<|rA J J<|rN<|tSR<|rM J J<|rM J J<|ARun.qv (q_neq J J) J<|rN<|ATodo.cond_d J (fun hc=>?_) (fun hc=>?_)
      · refine have h := iteT hc h; tSR<|rM J J<|rA J J<|rN<|ATodo.ret<|have h := outL h hA1; ?_
        obtain rfl := Option.some.inj h
        exact ImpX.here ⟨_,.cons (.tmp _ _ J) .nil,J⟩
      · refine have h := iteF hc h; tK<|ATodo.blk<|tR<|ARun.qv (q_addw J J) J<|rM J J<|rN<|ATodo.stop<|?_
        obtain rfl := Option.some.inj h
        exact hJ1 _ _ J<|ImpX.lq [] J J J
    · refine have h := iteF hc h; ATodo.exit J<|have h := outL h hA1; tSR<|rM J J<|rA J J<|rN<|ATodo.ret<|?_
      obtain rfl := Option.some.inj h
      exact ImpX.here ⟨_,.cons (.tmp _ _ J) .nil,J⟩

theorem slices_Index_Sample_Sample_c [GI : GTab] {p0x0 : List Sample} {p1x0 : Sample} {r : Int} (h : slices_Index_Sample_Sample p0x0 p1x0 = some r) : Pu Tryz.prog 195 [lE3 p0x0,Sample.av p1x0] (I r) := by
  unfold slices_Index_Sample_Sample at h
  refine ACall.bodyN Tryz.func195 J Tryz.ntmps195 Tryz.results195 J J ?_
  refine tSR<|n_box J J J J fun b1=>rA J J<|rN<|tS<|tSR<|rM J J<|ARun.qv (t_len J) J<|rM J J<|rN<|ATodo.block<|ATodo.loopI (fun x : Int=>slices_Index_Sample_Sample_b1 p0x0 p1x0 x) (fun x σ'=>σ' = ⟨19,[(0,lE3 p0x0),(3,.ptr b1 0),(7,I (p0x0.length : Int)),(8,I x)],[(b1,.cells (cE0 p1x0))]⟩) h ?_ ?_
  · exact ImpX.lq [0] J J J
  · intro n3 z1 σ' J1 hmk h hJ1 hA1
    obtain rfl := hmk
    replace h : slices_Index_Sample_Sample_b1 p0x0 p1x0 n3 = some z1 := h
    unfold slices_Index_Sample_Sample_b1 at h
    refine tSR<|ARun.qv (q_lss J J) J<|rN<|tS<|ATodo.cond_d J (fun hc=>?_) (fun hc=>?_)
    · refine have h := iteT hc h; tK<|tS<|ATodo.block<|tSR<|rM J J<|rA J J<|rN<|tS<|ATodo.regionM (id := 4) (A := [0,0,0,6,14,31]) 6 mixed J (by kernel_rfl) (by kernel_rfl)<|AM.qv (q_load_ptr_all J J .p0 J) J<|AM.qv (q_move J) J<|AM.qv (q_move J) J<|bndE h fun v4 e1 h=>AM.qv (t_index J J J e1 J J) J<|AM.qv (q_load_rptr_agg J J J) J<|AM.qv (t_teq (g := Sample.av) (X := p1x0) (Y := v4) J J J J J) J<|AM.nil<|rN<|ATodo.cond_d J (fun hc=>?_) (fun hc=>?_)
      · refine have h := iteT hc h; tSR<|rM J J<|rA J J<|rN<|ATodo.ret<|have h := outL h hA1; ?_
        obtain rfl := Option.some.inj h
        exact ImpX.here ⟨_,.cons (.tmp _ _ J) .nil,J⟩
      · refine have h := iteF hc h; tK<|ATodo.blk<|tR<|ARun.qv (q_addw J J) J<|rM J J<|rN<|ATodo.stop<|?_
        obtain rfl := Option.some.inj h
        exact hJ1 _ _ J<|ImpX.lq [0] J J J
    · refine have h := iteF hc h; ATodo.exit J<|have h := outL h hA1; tSR<|rA J J<|rN<|ATodo.ret<|?_
      obtain rfl := Option.some.inj h
      exact ImpX.here ⟨_,.cons (.tmp _ _ J) .nil,J⟩

theorem slices_Contains_Sample_Sample_c [GI : GTab] {p0x0 : List Sample} {p1x0 : Sample} {r : Bool} (h : slices_Contains_Sample_Sample p0x0 p1x0 = some r) : Pu Tryz.prog 148 [lE3 p0x0,Sample.av p1x0] (.bool r) := by
  unfold slices_Contains_Sample_Sample at h
  refine ACall.bodyN Tryz.func148 J Tryz.ntmps148 Tryz.results148 J J ?_
  refine tSR<|n_box J J J J fun b1=>rA J J<|rN<|tSR<|rM J J<|ARun.qv (q_load_ptr_all J J .p0 J) J<|bndE h fun v2 e1 h=>r_callp J (slices_Index_Sample_Sample_c e1) (CoL.refl _) J<|ARun.qv (q_geq J J) J<|rA J J<|rN<|ATodo.ret<|?_
  obtain rfl := Option.some.inj h
  exact ImpX.here ⟨_,.cons (.tmp _ _ J) .nil,J⟩

theorem Q_merged_Sample_c [GI : GTab] {p0x0 : List Sample} {p1x0 : List Sample} {fnc : Sample → Sample → Option Int} {fnc_F : FuncId} [IsFn Tryz.prog fnc_F] {fnc_C : List AV} (fnc_h : ∀ {y0 y1 : _} {u : Int},fnc y0 y1 = some u → Pu Tryz.prog fnc_F (Sample.av y0 :: Sample.av y1 ::  fnc_C) (I u)) (fnc_hs : ∀ {y0 y1 : _} {u : Int},fnc y0 y1 = some u → @Pu strongT Tryz.prog fnc_F (Sample.av y0 :: Sample.av y1 ::  fnc_C) (I u)) {r : (List Sample) × Bool} (h : Q_merged_Sample p0x0 p1x0 fnc = some r) : ACall Tryz.prog 103 [lE3 p0x0,lE3 p1x0,.func (.func fnc_F) fnc_C] [] (T1 (fun d_0=>[(d_0,aE3 r.1)]) (fun d_0=>.tup [.sl 4 d_0 0 r.1.length,.bool r.2])) := by
  unfold Q_merged_Sample at h
  refine ACall.lessH ?_
  refine ACall.bodyN Tryz.func103 J Tryz.ntmps103 Tryz.results103 J J ?_
  refine tSR<|rA J J<|rA J J<|rN<|tSR<|rM J J<|bndE h fun v1 e1 h=>t_call1 J (slices_Clone_Sample_Sample_c e1) (CoL.refl _) .nil (fun _=>J) J fun b2=>rA J J<|rN<|tS<|tSR<|rM J J<|ARun.qv (t_len J) J<|rM J J<|rN<|ATodo.block<|ATodo.loopI (fun x : (List Sample) × Int=>Q_merged_Sample_b1 p1x0 fnc x.1 x.2) (fun x σ'=>∃ (b6 : Bk),σ' = ⟨51,[(2,.func (.func fnc_F) fnc_C),(8,.sl 4 b6 0 x.1.length),(14,lE3 p1x0),(15,I (p1x0.length : Int)),(16,I x.2)],[(b6,aE3 x.1)]⟩) h ?_ ?_
  · exact ImpX.lq [0] ⟨b2,J⟩ J J
  · intro x z1 σ' J1 hmk h hJ1 hA1
    obtain ⟨l7, n8⟩ := x
    obtain ⟨b6, rfl⟩ := hmk
    replace h : Q_merged_Sample_b1 p1x0 fnc l7 n8 = some z1 := h
    unfold Q_merged_Sample_b1 at h
    refine tSR<|ARun.qv (q_lss J J) J<|rN<|tS<|ATodo.cond_d J (fun hc=>?_) (fun hc=>?_)
    · refine have h := iteT hc h; tK<|tS<|ATodo.block<|tSR<|bndE h fun v9 e2 h=>ARun.qv (t_index J J J e2 J J) J<|ARun.qv (q_load_rptr_agg J J J) J<|n_alloc J J J J fun b10=>n_store_ptr J J J J .p0 J J<|rN<|tSR<|rM J J<|ARun.qv (q_load_ptr_all J J .p0 J) J<|bndE h fun v11 e3 h=>r_callpB J (slices_Contains_Sample_Sample_c e3) (.cons (CoB.arrT .p1) (.cons (.co (.refl _)) .nil)) J J<|ARun.qv (q_not J) J<|rN<|ATodo.cut (fun σ'=>∃ (b12 : Bk) (l13 : List Sample),Q_merged_Sample_j1 n8 l13 = some z1 ∧ σ' = ⟨51,[(2,.func (.func fnc_F) fnc_C),(8,.sl 4 b12 0 l13.length),(14,lE3 p1x0),(15,I (p1x0.length : Int)),(16,I n8)],[(b12,aE3 l13)]⟩) ?_ ?_
      · refine ATodo.cond J (fun hc=>?_) (fun hc=>?_)
        · exact have h := iteT hc h; tR<|rM J J<|ARun.qv (q_load_ptr_all J J .p0 J) J<|n_buildSliceL (xs := ([v9] : List Sample).map Sample.av) J J J J J J<|bndE h fun l14 e4 h=>t_append (g := Sample.av) J J J J J J J J (.list _) e4 (fun _=>.p1) J fun b15=>rA J J<|rN<|ATodo.stop<|ImpX.lq [1] ⟨b15,l14,h,J⟩ J J
        · exact have h := iteFb hc h; tK<|ATodo.stop<|ImpX.lq [1] ⟨b6,l7,h,J⟩ J J
      · rintro σ' ⟨b12, l13, h, rfl⟩
        unfold Q_merged_Sample_j1 at h
        refine ATodo.blk<|tR<|ARun.qv (q_addw J J) J<|rM J J<|rN<|ATodo.stop<|?_
        obtain rfl := Option.some.inj h
        exact hJ1 _ _ J<|ImpX.lq [0] ⟨b12,J⟩ J J
    · refine have h := iteF hc h; ATodo.exit J<|have h := outL h hA1; ?_
      unfold Q_merged_Sample_k2 at h
      refine tSR<|rM J J<|rM J J<|bndE h fun v16 e5 h=>t_call0 J (slices_SortFunc_Sample_Sample_c fnc_hs (lenOk_f e5)) (CoL.refl _) (.cons .p0 .nil) J J<|ARun.ghost<|ImpX.eqs (s := 8) (av' := .sl 4 b6 0 v16.length) J (congrArg (AV.sl 4 b6 0) (lenOk_l e5))<|ImpX.here<|ARun.ghost<|ImpX.eqs (s := 29) (av' := .sl 4 b6 0 v16.length) J (congrArg (AV.sl 4 b6 0) (lenOk_l e5))<|ImpX.here<|rN<|tS<|tSR<|rA J J<|rN<|ATodo.block<|ATodo.loopI (fun x : Int=>Q_merged_Sample_b2 fnc v16 x) (fun x σ'=>σ' = ⟨51,[(2,.func (.func fnc_F) fnc_C),(8,.sl 4 b6 0 v16.length),(11,I x)],[(b6,aE3 v16)]⟩) h ?_ ?_
      · exact ImpX.lq [0] J J J
      · intro n18 z2 σ' J2 hmk h hJ2 hA2
        obtain rfl := hmk
        replace h : Q_merged_Sample_b2 fnc v16 n18 = some z2 := h
        unfold Q_merged_Sample_b2 at h
        refine tS<|tSR<|rM J J<|rM J J<|ARun.qv (t_len_sl J) J<|ARun.qv (q_lss J J) J<|rN<|ATodo.cond_d J (fun hc=>?_) (fun hc=>?_)
        · refine have h := iteT hc h; tK<|tS<|ATodo.block<|tS<|ATodo.regionM (id := 12) (A := [0,0,0,4,14,30,0,0,192,448,1023,2047]) 12 mixed J (by kernel_rfl) (by kernel_rfl)<|AM.qv (q_move J) J<|AM.qv (q_move J) J<|AM.qv (q_move J) J<|AM.qv (q_subw J J) J<|bndE h fun v19 e6 h=>AM.qv (t_index_sl J J J e6) J<|AM.qv (t_load_aptr_agg (g := Sample.av) J J (.inl .p0) J e6 J) J<|AM.qv (q_move J) J<|AM.qv (q_move J) J<|bndE h fun v20 e7 h=>AM.qv (t_index_sl J J J e7) J<|AM.qv (t_load_aptr_agg (g := Sample.av) J J (.inl .p0) J e7 J) J<|bndE h fun v21 e8 h=>AM.callvp J J (fnc_h e8) (CoL.refl _) J<|AM.qv (q_eql J J) J<|AM.nil<|rN<|ATodo.cond_d J (fun hc=>?_) (fun hc=>?_)
          · refine have h := iteT hc h; tSR<|rA J J<|rA J J<|rN<|ATodo.ret<|have h := outL h hA2; ?_
            obtain rfl := Option.some.inj h
            exact ImpX.arr (s := 6) 4 J fun b22=>ImpX.here ⟨_,.cons (.tmp _ _ J) (.cons (.tmp _ _ J) .nil),_,.cons .p0 .nil,⟨b22,J,J⟩⟩
          · refine have h := iteF hc h; tK<|ATodo.blk<|tR<|rM J J<|ARun.qv (q_addw J J) J<|rA J J<|rN<|ATodo.stop<|?_
            obtain rfl := Option.some.inj h
            exact hJ2 _ _ J<|ImpX.lq [0] J J J
        · refine have h := iteF hc h; ATodo.exit J<|have h := outL h hA2; tSR<|rM J J<|rA J J<|rA J J<|rN<|ATodo.ret<|?_
          obtain rfl := Option.some.inj h
          exact ImpX.here ⟨_,.cons (.tmp _ _ J) (.cons (.tmp _ _ J) .nil),_,.cons .p0 .nil,⟨b6,J,J⟩⟩

theorem Q_SamplesMerged_c [GI : GTab] {p0x0 : List Sample} {p1x0 : List Sample} {r : (List Sample) × Int} (h : Q_SamplesMerged p0x0 p1x0 = some r) : ACall Tryz.prog 41 [lE3 p0x0,lE3 p1x0] [] (T1 (fun d_0=>[(d_0,aE3 r.1)]) (fun d_0=>.tup [.sl 4 d_0 0 r.1.length,I r.2])) := by
  unfold Q_SamplesMerged at h
  refine ACall.lessH ?_
  refine ACall.bodyN Tryz.func41 J Tryz.ntmps41 Tryz.results41 J J ?_
  refine tSR<|rA J J<|rA J J<|rN<|tSR<|rM J J<|rM J J<|bndE h fun v1 e1 h=>t_call1 J (Q_merged_Sample_c (fun e=>Q_SampleOrder_c e) (fun e=>Q_SampleOrder_c (GI := strongT) e) e1) (CoL.refl _) .nil (fun _=>J) J fun b2=>rM J J<|rX J J J<|rX J J J<|rA J J<|rA J J<|rN<|tS<|ATodo.block<|tSR<|rM J J<|ARun.qv (q_not J) J<|rA J J<|rN<|ATodo.cond J (fun hc=>?_) (fun hc=>?_)
  · refine have h := iteT hc h; tSR<|rA J J<|rA J J<|rN<|ATodo.ret<|?_
    obtain rfl := Option.some.inj h
    exact ImpX.arr (s := 4) 4 J fun b3=>ImpX.here ⟨_,.cons (.tmp _ _ J) (.cons (.tmp _ _ J) .nil),_,.cons .p0 .nil,⟨b3,J,J⟩⟩
  · refine have h := iteFb hc h; tSR<|rM J J<|ARun.qv (t_len_sl J) J<|ARun.qv (q_gtr J J) J<|rA J J<|rN<|ATodo.cond_d J (fun hc=>?_) (fun hc=>?_)
    · refine have h := iteT hc h; tSR<|rA J J<|rA J J<|rN<|ATodo.ret<|?_
      obtain rfl := Option.some.inj h
      exact ImpX.arr (s := 4) 4 J fun b4=>ImpX.here ⟨_,.cons (.tmp _ _ J) (.cons (.tmp _ _ J) .nil),_,.cons .p0 .nil,⟨b4,J,J⟩⟩
    · refine have h := iteF hc h; tK<|ATodo.blk<|tSR<|rM J J<|rA J J<|rA J J<|rN<|ATodo.ret<|?_
      obtain rfl := Option.some.inj h
      exact ImpX.here ⟨_,.cons (.tmp _ _ J) (.cons (.tmp _ _ J) .nil),_,.cons .p0 .nil,⟨b2,J,J⟩⟩

theorem slices_Equal_Sample_Sample_c [GI : GTab] {p0x0 : List Sample} {p1x0 : List Sample} {r : Bool} (h : slices_Equal_Sample_Sample p0x0 p1x0 = some r) : Pu Tryz.prog 42 [lE3 p0x0,lE3 p1x0] (.bool r) := by
  unfold slices_Equal_Sample_Sample at h
  refine ACall.bodyN Tryz.func42 J Tryz.ntmps42 Tryz.results42 J J ?_
  refine tSR<|rA J J<|rN<|tS<|tSR<|rM J J<|ARun.qv (t_len J) J<|rM J J<|ARun.qv (t_len J) J<|ARun.qv (q_neq J J) J<|rN<|ATodo.cond_d J (fun hc=>?_) (fun hc=>?_)
  · refine have h := iteT hc h; tSR<|rA J J<|rN<|ATodo.ret<|?_
    obtain rfl := Option.some.inj h
    exact ImpX.here ⟨_,.cons (.tmp _ _ J) .nil,J⟩
  · refine have h := iteF hc h; tK<|tS<|tSR<|rM J J<|ARun.qv (t_len J) J<|rM J J<|rN<|ATodo.block<|ATodo.loopI (fun x : Int=>slices_Equal_Sample_Sample_b1 p0x0 p1x0 x) (fun x σ'=>σ' = ⟨26,[(0,lE3 p0x0),(1,lE3 p1x0),(12,I (p0x0.length : Int)),(13,I x)],[]⟩) h ?_ ?_
    · exact ImpX.lq [] J J J
    · intro n2 z1 σ' J1 hmk h hJ1 hA1
      obtain rfl := hmk
      replace h : slices_Equal_Sample_Sample_b1 p0x0 p1x0 n2 = some z1 := h
      unfold slices_Equal_Sample_Sample_b1 at h
      refine tSR<|ARun.qv (q_lss J J) J<|rN<|tS<|ATodo.cond_d J (fun hc=>?_) (fun hc=>?_)
      · refine have h := iteT hc h; tK<|tS<|ATodo.block<|tSR<|rM J J<|rA J J<|rN<|tS<|ATodo.regionM (id := 6) (A := [0,0,3,7,0,0,48,112,255]) 9 mixed J (by kernel_rfl) (by kernel_rfl)<|AM.qv (q_move J) J<|AM.qv (q_move J) J<|bndE h fun v3 e1 h=>AM.qv (t_index J J J e1 J J) J<|AM.qv (q_load_rptr_agg J J J) J<|AM.qv (q_move J) J<|AM.qv (q_move J) J<|bndE h fun v4 e2 h=>AM.qv (t_index J J J e2 J J) J<|AM.qv (q_load_rptr_agg J J J) J<|AM.qv (t_tne (g := Sample.av) (X := v3) (Y := v4) J J J J J) J<|AM.nil<|rN<|ATodo.cond_d J (fun hc=>?_) (fun hc=>?_)
        · refine have h := iteT hc h; tSR<|rA J J<|rN<|ATodo.ret<|have h := outL h hA1; ?_
          obtain rfl := Option.some.inj h
          exact ImpX.here ⟨_,.cons (.tmp _ _ J) .nil,J⟩
        · refine have h := iteF hc h; tK<|ATodo.blk<|tR<|ARun.qv (q_addw J J) J<|rM J J<|rN<|ATodo.stop<|?_
          obtain rfl := Option.some.inj h
          exact hJ1 _ _ J<|ImpX.lq [] J J J
      · refine have h := iteF hc h; ATodo.exit J<|have h := outL h hA1; tSR<|rA J J<|rN<|ATodo.ret<|?_
        obtain rfl := Option.some.inj h
        exact ImpX.here ⟨_,.cons (.tmp _ _ J) .nil,J⟩

theorem Q_KeyFault_c {p0x0 : Str} {r : Int} (h : Q_KeyFault p0x0 = some r) : Pu Tryz.prog 20 [.str p0x0] (I r) := by
  unfold Q_KeyFault at h
  refine ACall.bodyN Tryz.func20 J Tryz.ntmps20 Tryz.results20 J J ?_
  refine tSR<|rA J J<|rN<|tS<|tSR<|rM J J<|bndE h fun v1 e1 h=>r_callp J (Q_Key_c e1) (CoL.refl _) J<|ARun.qv (q_not J) J<|rN<|ATodo.cond J (fun hc=>?_) (fun hc=>?_)
  · refine have h := iteT hc h; tSR<|rA J J<|rN<|ATodo.ret<|?_
    obtain rfl := Option.some.inj h
    exact ImpX.here ⟨_,.cons (.tmp _ _ J) .nil,J⟩
  · refine have h := iteFb hc h; tK<|tSR<|rA J J<|rN<|ATodo.ret<|?_
    obtain rfl := Option.some.inj h
    exact ImpX.here ⟨_,.cons (.tmp _ _ J) .nil,J⟩

theorem base_Window_c [GI : GTab] {p0x0 : Window} {r : Bool} (h : base_Window p0x0 = r) : Pu Tryz.prog 89 [Window.av p0x0] (.bool r) := by
  unfold base_Window at h
  refine ACall.bodyN Tryz.func89 J Tryz.ntmps89 Tryz.results89 J J ?_
  refine tSR<|n_box J J J J fun b1=>rA J J<|rN<|tS<|ATodo.cut (fun σ'=>∃ (c2 : Bool),base_Window_j1 c2 = r ∧ σ' = ⟨14,[(2,.bool c2)],[]⟩) ?_ ?_
  · refine tR<|rF J J J<|rL J J .p0 J J<|rF J J J<|rL J J .p0 J J<|r_callp J (base_Out_c J) (CoL.refl _) J<|ARun.qv (q_not J) J<|rM J J<|ARun.guard J J J (fun hc=>?_) (fun hc=>?_)
    · rw [andTb hc] at h
      exact rF J J J<|rY J J J<|rL J J .p0 J J<|rY J J J<|ARun.qv (q_leq J J) J<|rT J J J<|rA J J<|rN<|ATodo.stop<|ImpX.lq [] ⟨decide (p0x0.To ≤ (345686400000 : Int)),h,J⟩ J J
    · rw [andFb hc] at h
      exact rG J J J J<|rG J J J J<|rE J J J<|rA J J<|rN<|ATodo.stop<|ImpX.lq [] ⟨false,h,J⟩ J J
  · rintro σ' ⟨c2, h, rfl⟩
    unfold base_Window_j1 at h
    refine ATodo.ret<|?_
    obtain rfl := h
    exact ImpX.here ⟨_,.cons (.tmp _ _ J) .nil,J⟩

theorem rule_fault_c [GI : GTab] {p0x0 : List Rule} {p1x0 : List Sample} {p2x0 : Window} {r : Int} (h : rule_fault p0x0 p1x0 p2x0 = some r) : Pu Tryz.prog 72 [lE2 p0x0,lE3 p1x0,Window.av p2x0] (I r) := by
  unfold rule_fault at h
  refine ACall.bodyN Tryz.func72 J Tryz.ntmps72 Tryz.results72 J J ?_
  refine tSR<|n_box J J J J fun b1=>rA J J<|rN<|tSR<|rM J J<|bndE h fun v2 e1 h=>r_callp J (rule_CheckRules_c e1) (CoL.refl _) J<|rM J J<|bndE h fun v3 e2 h=>r_callp J (rule_CheckSamples_c e2) (CoL.refl _) J<|n_buildSliceL (xs := ([v2,v3] : List Int).map I) J J J J J J<|bndE h fun v4 e3 h=>r_callp J (base_First_c e3) (CoL.refl _) J<|rA J J<|rN<|tS<|tS<|ATodo.cut (fun σ'=>∃ (c5 : Bool),rule_fault_j1 v4 c5 = some r ∧ σ' = ⟨22,[(7,I v4),(20,.bool c5)],[]⟩) ?_ ?_
  · refine tR<|rM J J<|ARun.qv (q_eql J J) J<|rM J J<|ARun.guard_dt J J J (fun hc=>?_) (fun hc=>?_)
    · rw [andTd hc] at h
      exact ARun.qv (q_load_ptr_all J J .p0 J) J<|rY J J J<|r_callp J (base_Window_c J) (CoL.refl _) J<|rY J J J<|ARun.qv (q_not J) J<|rT J J J<|rN<|ATodo.stop<|ImpX.lq [] ⟨!(base_Window p2x0),h,J⟩ J J
    · rw [andFd hc] at h
      exact rG J J J J<|rG J J J J<|rE J J J<|rN<|ATodo.stop<|ImpX.lq [] ⟨false,h,J⟩ J J
  · rintro σ' ⟨c5, h, rfl⟩
    unfold rule_fault_j1 at h
    refine ATodo.cut (fun σ'=>∃ (n6 : Int),rule_fault_j2 n6 = some r ∧ σ' = ⟨22,[(7,I n6)],[]⟩) ?_ ?_
    · refine ATodo.cond J (fun hc=>?_) (fun hc=>?_)
      · exact have h := iteT hc h; tR<|rA J J<|rN<|ATodo.stop<|ImpX.lq [] ⟨(1 : Int),h,J⟩ J J
      · exact have h := iteFb hc h; tK<|ATodo.stop<|ImpX.lq [] ⟨v4,h,J⟩ J J
    · rintro σ' ⟨n6, h, rfl⟩
      unfold rule_fault_j2 at h
      refine tSR<|rM J J<|rA J J<|rN<|ATodo.ret<|?_
      obtain rfl := Option.some.inj h
      exact ImpX.here ⟨_,.cons (.tmp _ _ J) .nil,J⟩

theorem slices_Sort_string_string_k : Sort1 Tryz.prog 164 (fun l=>Value.string ⟨l.toArray⟩) srtS := ⟨fun blk off cap zs w hH hb hs=>Tryz.slices_Sort_string blk off cap zs w hH hb hs,fun p cap w=>Tryz.slices_Sort_string_none p cap w⟩
theorem slices_Sort_string_string_c [GI : GTab] {b_0 : Bk} {p0x0 : List Str} {r : (List Str)} (h : slices_Sort_string_string p0x0 = some r) : ACall Tryz.prog 164 [.sl 1 b_0 0 p0x0.length] [(b_0,.arr 1 (p0x0.map AV.str))] (T0 [(b_0,.arr 1 (r.map AV.str))] (.tup [])) :=
  sort1_acall slices_Sort_string_string_k (g := AV.str) (fun h=>h.str_inv) (fun w S x=>.str _) (fun _=>J) (fun xs=>List.length_mergeSort _) (fun _=>J) h

theorem slices_Compact_string_string_c [GI : GTab] {b_0 : Bk} {p0x0 : List Str} {r : (List Str)} (h : slices_Compact_string_string p0x0 = some r) : ACall Tryz.prog 165 [.sl 1 b_0 0 p0x0.length] [(b_0,aE1 p0x0)] (T1 (fun d_0=>[(d_0,aE1 r)]) (fun d_0=>.sl 1 d_0 0 r.length)) := by
  unfold slices_Compact_string_string at h
  refine ACall.lessH ?_
  refine ACall.bodyN Tryz.func165 J Tryz.ntmps165 Tryz.results165 J J ?_
  refine tSR<|rA J J<|rN<|tS<|tSR<|rM J J<|ARun.qv (t_len_sl J) J<|ARun.qv (q_lss J J) J<|rN<|ATodo.cond_d J (fun hc=>?_) (fun hc=>?_)
  · refine have h := iteT hc h; tSR<|rM J J<|rA J J<|rN<|ATodo.ret<|?_
    obtain rfl := Option.some.inj h
    exact ImpX.here ⟨_,.cons (.tmp _ _ J) .nil,_,.cons .p0 .nil,⟨b_0,J,J⟩⟩
  · refine have h := iteF hc h; tK<|tS<|tSR<|rA J J<|rN<|ATodo.block<|ATodo.loopI (fun x : Int=>slices_Compact_string_string_b1 p0x0 x) (fun x σ'=>σ' = ⟨61,[(0,.sl 1 b_0 0 p0x0.length),(3,I x)],[(b_0,aE1 p0x0)]⟩) h ?_ ?_
    · exact ImpX.lq [0] J J J
    · intro n2 z1 σ' J1 hmk h hJ1 hA1
      obtain rfl := hmk
      replace h : slices_Compact_string_string_b1 p0x0 n2 = some z1 := h
      unfold slices_Compact_string_string_b1 at h
      refine tS<|tSR<|rM J J<|rM J J<|ARun.qv (t_len_sl J) J<|ARun.qv (q_lss J J) J<|rN<|ATodo.cond_d J (fun hc=>?_) (fun hc=>?_)
      · refine have h := iteT hc h; tK<|tS<|ATodo.block<|tS<|ATodo.regionM (id := 6) (A := [0,0,3,7,0,0,32,112,240,511]) 10 mixed J (by kernel_rfl) (by kernel_rfl)<|AM.qv (q_move J) J<|AM.qv (q_move J) J<|bndE h fun v3 e1 h=>AM.qv (t_index_sl J J J e1) J<|AM.qv (t_load_aptr (g := AV.str) J J (.inl .p0) e1 J) J<|AM.qv (q_move J) J<|AM.qv (q_move J) J<|AM.qv (q_subw J J) J<|bndE h fun v4 e2 h=>AM.qv (t_index_sl J J J e2) J<|AM.qv (t_load_aptr (g := AV.str) J J (.inl .p0) e2 J) J<|AM.qv (q_seq J J) J<|AM.nil<|rN<|ATodo.cond_d J (fun hc=>?_) (fun hc=>?_)
        · refine have h := iteT hc h; tSR<|rM J J<|rM J J<|bndE h fun l5 e3 h=>ARun.qv (t_slice_sl J J (.some _ _ _ J) .none J J e3) J<|rA J J<|rN<|tS<|tSR<|rA J J<|rN<|ATodo.block<|ATodo.loopI (fun x : (List Str) × Int × Int=>slices_Compact_string_string_b2 n2 l5 x.1 x.2.1 x.2.2) (fun x σ'=>σ' = ⟨61,[(0,.sl 1 b_0 0 x.1.length),(3,I x.2.1),(4,.sl 1 b_0 n2.toNat l5.length),(5,I x.2.2)],[(b_0,aE1 x.1)]⟩) h ?_ ?_
          · exact ImpX.lq [0] J J J
          · intro x z2 σ' J2 hmk h hJ2 hA2
            obtain ⟨l9, n10, n11⟩ := x
            obtain rfl := hmk
            replace h : slices_Compact_string_string_b2 n2 l5 l9 n10 n11 = some z2 := h
            unfold slices_Compact_string_string_b2 at h
            refine tS<|tSR<|rM J J<|rM J J<|ARun.qv (t_len_sub J) J<|ARun.qv (q_lss J J) J<|rN<|ATodo.cond_d J (fun hc=>?_) (fun hc=>?_)
            · refine have h := iteT hc h; tK<|tS<|ATodo.block<|tS<|ATodo.regionM (id := 11) (A := [0,0,3,7,0,0,32,112,240,511]) 10 mixed J (by kernel_rfl) (by kernel_rfl)<|AM.qv (q_move J) J<|AM.qv (q_move J) J<|bndE h fun v12 e4 h=>AM.qv (t_index_sub (L := n2) J J J e4) J<|AM.qv (t_load_aptr (g := AV.str) J J (.inl .p0) (idxS_some e4).2 J) J<|AM.qv (q_move J) J<|AM.qv (q_move J) J<|AM.qv (q_subw J J) J<|bndE h fun v13 e5 h=>AM.qv (t_index_sub (L := n2) J J J e5) J<|AM.qv (t_load_aptr (g := AV.str) J J (.inl .p0) (idxS_some e5).2 J) J<|AM.qv (q_sne J J) J<|AM.nil<|rN<|ATodo.cut (fun σ'=>∃ (l14 : List Str) (n15 : Int),slices_Compact_string_string_j1 n11 l14 n15 = some z2 ∧ σ' = ⟨61,[(0,.sl 1 b_0 0 l14.length),(3,I n15),(4,.sl 1 b_0 n2.toNat l5.length),(5,I n11)],[(b_0,aE1 l14)]⟩) ?_ ?_
              · refine ATodo.cond_d J (fun hc=>?_) (fun hc=>?_)
                · exact have h := iteT hc h; tSR<|rM J J<|rM J J<|rM J J<|rM J J<|bndE h fun v16 e6 h=>ARun.qv (t_index_sub (L := n2) J J J e6) J<|ARun.qv (t_load_aptr (g := AV.str) J J (.inl .p0) (idxS_some e6).2 J) J<|bndE h fun v17 e7 h=>ARun.qv (t_index_sl J J J e7) J<|t_store_aptr1 (g := AV.str) (el' := v16) J J J J e7 J .p0 J<|ARun.ghost<|ImpX.eqs (s := 0) (av' := .sl 1 b_0 0 (l9.set n10.toNat v16).length) J (by rw [List.length_set])<|ImpX.here<|ARun.ghost<|ImpX.eqs (s := 45) (av' := .sl 1 b_0 0 (l9.set n10.toNat v16).length) J (by rw [List.length_set])<|ImpX.here<|rN<|tR<|rM J J<|ARun.qv (q_addw J J) J<|rA J J<|rN<|ATodo.stop<|ImpX.lq [0] ⟨l9.set n10.toNat v16,w64 (n10 + (1 : Int)),h,J⟩ J J
                · exact have h := iteF hc h; tK<|ATodo.stop<|ImpX.lq [0] ⟨l9,n10,h,J⟩ J J
              · rintro σ' ⟨l14, n15, h, rfl⟩
                unfold slices_Compact_string_string_j1 at h
                refine ATodo.blk<|tR<|rM J J<|ARun.qv (q_addw J J) J<|rA J J<|rN<|ATodo.stop<|?_
                obtain rfl := Option.some.inj h
                exact hJ2 _ _ J<|ImpX.lq [0] J J J
            · refine have h := iteF hc h; ATodo.exit J<|have h := outL h hA2; ?_
              unfold slices_Compact_string_string_k2 at h
              refine tSR<|rM J J<|rM J J<|bndE h fun l18 e8 h=>ARun.qv (t_slice_sl J J (.some _ _ _ J) .none J J e8) J<|t_clear (g := AV.str) (Z := []) (L := n10) J J J J J J e8 .p0<|ARun.ghost<|ImpX.eqs (s := 0) (av' := .sl 1 b_0 0 (clr l9 n10 l18.length []).length) J (congrArg (AV.sl 1 b_0 0) (clr_len e8))<|ImpX.here<|ARun.ghost<|ImpX.eqs (s := 54) (av' := .sl 1 b_0 0 (clr l9 n10 l18.length []).length) J (congrArg (AV.sl 1 b_0 0) (clr_len e8))<|ImpX.here<|rN<|tSR<|rM J J<|rM J J<|bndE h fun l19 e9 h=>ARun.qv (t_slice_sl J J .none (.some _ _ _ J) J J e9) J<|rA J J<|ARun.ghost<|ImpX.takeT e9 .p0<|ImpX.here<|rN<|ATodo.ret<|have h := outL h hA1; ?_
              obtain rfl := Option.some.inj h
              exact ImpX.here ⟨_,.cons (.tmp _ _ J) .nil,_,.cons .p0 .nil,⟨b_0,J,J⟩⟩
        · refine have h := iteF hc h; tK<|ATodo.blk<|tR<|rM J J<|ARun.qv (q_addw J J) J<|rA J J<|rN<|ATodo.stop<|?_
          obtain rfl := Option.some.inj h
          exact hJ1 _ _ J<|ImpX.lq [0] J J J
      · refine have h := iteF hc h; ATodo.exit J<|have h := outL h hA1; tSR<|rM J J<|rA J J<|rN<|ATodo.ret<|?_
        obtain rfl := Option.some.inj h
        exact ImpX.here ⟨_,.cons (.tmp _ _ J) .nil,_,.cons .p0 .nil,⟨b_0,J,J⟩⟩

theorem rule_devices_c [GI : GTab] {p0x0 : List Sample} {p1x0 : Str} {r : (List Str)} (h : rule_devices p0x0 p1x0 = some r) : ACall Tryz.prog 132 [lE3 p0x0,.str p1x0] [] (T1 (fun d_0=>[(d_0,aE1 r)]) (fun d_0=>.sl 1 d_0 0 r.length)) := by
  unfold rule_devices at h
  refine ACall.lessH ?_
  refine ACall.bodyN Tryz.func132 J Tryz.ntmps132 Tryz.results132 J J ?_
  refine tSR<|rA J J<|rN<|tSR<|rA J J<|rN<|tS<|tSR<|rM J J<|ARun.qv (t_len J) J<|rM J J<|rN<|ATodo.block<|ATodo.loopI (fun x : (List Str) × Int=>rule_devices_b1 p0x0 p1x0 x.1 x.2) (fun x σ'=>∃ (b4 : Bk),σ' = ⟨28,[(1,.str p1x0),(5,.sl 1 b4 0 x.1.length),(8,lE3 p0x0),(9,I (p0x0.length : Int)),(10,I x.2)],[(b4,aE1 x.1)]⟩) h ?_ ?_
  · exact ImpX.arr (s := 5) 1 J fun b7=>ImpX.lq [0] ⟨b7,J⟩ J J
  · intro x z1 σ' J1 hmk h hJ1 hA1
    obtain ⟨l5, n6⟩ := x
    obtain ⟨b4, rfl⟩ := hmk
    replace h : rule_devices_b1 p0x0 p1x0 l5 n6 = some z1 := h
    unfold rule_devices_b1 at h
    refine tSR<|ARun.qv (q_lss J J) J<|rN<|tS<|ATodo.cond_d J (fun hc=>?_) (fun hc=>?_)
    · refine have h := iteT hc h; tK<|tS<|ATodo.block<|tSR<|bndE h fun v8 e1 h=>ARun.qv (t_index J J J e1 J J) J<|ARun.qv (q_load_rptr_agg J J J) J<|n_alloc J J J J fun b9=>n_store_ptr J J J J .p0 J J<|rN<|tSR<|rF J J J<|rL J J .p0 J J<|rM J J<|ARun.qv (q_seq J J) J<|rN<|ATodo.cut (fun σ'=>∃ (b10 : Bk) (l11 : List Str),rule_devices_j1 n6 l11 = some z1 ∧ σ' = ⟨28,[(1,.str p1x0),(5,.sl 1 b10 0 l11.length),(8,lE3 p0x0),(9,I (p0x0.length : Int)),(10,I n6)],[(b10,aE1 l11)]⟩) ?_ ?_
      · refine ATodo.cond_d J (fun hc=>?_) (fun hc=>?_)
        · exact have h := iteT hc h; tR<|rM J J<|rF J J J<|rL J J .p0 J J<|n_buildSliceL (xs := ([v8.Device] : List Str).map AV.str) J J J J J J<|bndE h fun l12 e2 h=>t_append (g := AV.str) J J J J J J J J (.list _) e2 (fun _=>.p1) J fun b13=>rA J J<|rN<|ATodo.stop<|ImpX.lq [1] ⟨b13,l12,h,J⟩ J J
        · exact have h := iteF hc h; tK<|ATodo.stop<|ImpX.lq [1] ⟨b4,l5,h,J⟩ J J
      · rintro σ' ⟨b10, l11, h, rfl⟩
        unfold rule_devices_j1 at h
        refine ATodo.blk<|tR<|ARun.qv (q_addw J J) J<|rM J J<|rN<|ATodo.stop<|?_
        obtain rfl := Option.some.inj h
        exact hJ1 _ _ J<|ImpX.lq [0] ⟨b10,J⟩ J J
    · refine have h := iteF hc h; ATodo.exit J<|have h := outL h hA1; ?_
      unfold rule_devices_k2 at h
      refine tSR<|rM J J<|bndE h fun v14 e3 h=>t_call0 J (slices_Sort_string_string_c (lenOk_f e3)) (CoL.refl _) (.cons .p0 .nil) J J<|ARun.ghost<|ImpX.eqs (s := 5) (av' := .sl 1 b4 0 v14.length) J (congrArg (AV.sl 1 b4 0) (lenOk_l e3))<|ImpX.here<|ARun.ghost<|ImpX.eqs (s := 24) (av' := .sl 1 b4 0 v14.length) J (congrArg (AV.sl 1 b4 0) (lenOk_l e3))<|ImpX.here<|rN<|tSR<|rM J J<|bndE h fun v15 e4 h=>t_call1 J (slices_Compact_string_string_c e4) (CoL.refl _) (.cons .p0 .nil) (fun _=>J) J fun b16=>rA J J<|rN<|ATodo.ret<|?_
      obtain rfl := Option.some.inj h
      exact ImpX.here ⟨_,.cons (.tmp _ _ J) .nil,_,.cons .p0 .nil,⟨b16,J,J⟩⟩

theorem rule_spansOf_1x_c [GI : GTab] {b_2 : Bk} {b_2x0 : Bk} {p0x0 : Int} {p1x0 : Bool} {p2x0 : List Rule_span} {r : (List Rule_span)} (h : rule_spansOf_1x p0x0 p1x0 p2x0 = some r) : ACall Tryz.prog 130 [I p0x0,.bool p1x0,.ptr b_2 0] [(b_2,.cells [.sl 2 b_2x0 0 p2x0.length]),(b_2x0,aE6 p2x0)] (T1 (fun c_2x0=>[(b_2,.cells [.sl 2 c_2x0 0 r.length]),(c_2x0,aE6 r)]) (fun c_2x0=>.tup [])) := by
  unfold rule_spansOf_1x at h
  refine ACall.lessH ?_
  refine ACall.bodyN Tryz.func130 J Tryz.ntmps130 Tryz.results130 J J ?_
  refine tSR<|rM J J<|rN<|ATodo.cut (fun σ'=>∃ (b1 : Bk) (l2 : List Rule_span),rule_spansOf_1x_j1 l2 = some r ∧ σ' = ⟨18,[],[(b_2,.cells [.sl 2 b1 0 l2.length]),(b1,aE6 l2)]⟩) ?_ ?_
  · refine ATodo.cond J (fun hc=>?_) (fun hc=>?_)
    · exact have h := iteT hc h; tR<|rL J J .p0 J J<|rM J J<|ARun.qv (n_build J J J J J) J<|n_buildSliceL (xs := ([(⟨p0x0,(345686400000 : Int)⟩ : Rule_span)]).map Rule_span.av) J J J J J J<|bndE h fun l3 e1 h=>t_append (g := Rule_span.av) J J J J J J J J (.list _) e1 (fun _=>.p1) J fun b4=>n_store_ptr J J J J .p0 J J<|rN<|ATodo.stop<|ImpX.lq [0,0] ⟨b4,l3,h,J⟩ J J
    · exact have h := iteFb hc h; tR<|rL J J .p0 J J<|rL J J .p0 J J<|ARun.qv (t_len_sl J) J<|ARun.qv (q_subw J J) J<|rM J J<|bndE h fun v5 e2 h=>ARun.qv (t_index_sl J J J e2) J<|ARun.qv (t_field_aptr J J) J<|t_store_aptr1 (g := Rule_span.av) (el' := (⟨v5.from_,p0x0⟩ : Rule_span)) J J J J e2 J .p1 J<|ARun.ghost<|ImpX.eqs (s := 11) (av' := .sl 2 b_2x0 0 (p2x0.set (w64 ((p2x0.length : Int) - (1 : Int))).toNat (⟨v5.from_,p0x0⟩ : Rule_span)).length) J (by rw [List.length_set])<|ImpX.here<|ARun.ghost<|ImpX.eqs (s := 12) (av' := .sl 2 b_2x0 0 (p2x0.set (w64 ((p2x0.length : Int) - (1 : Int))).toNat (⟨v5.from_,p0x0⟩ : Rule_span)).length) J (by rw [List.length_set])<|ImpX.here<|ARun.ghost<|ImpX.eqBox (j := 0) (av' := .sl 2 b_2x0 0 (p2x0.set (w64 ((p2x0.length : Int) - (1 : Int))).toNat (⟨v5.from_,p0x0⟩ : Rule_span)).length) .p0 J (by rw [List.length_set]) J<|ImpX.here<|rN<|ATodo.stop<|ImpX.lq [0,0] ⟨b_2x0,p2x0.set (w64 ((p2x0.length : Int) - (1 : Int))).toNat (⟨v5.from_,p0x0⟩ : Rule_span),h,J⟩ J J
  · rintro σ' ⟨b1, l2, h, rfl⟩
    unfold rule_spansOf_1x_j1 at h
    refine ATodo.nil<|?_
    obtain rfl := Option.some.inj h
    exact ImpX.here ⟨_,.nil,_,.cons .p0 (.cons .p0 .nil),⟨b1,J,J⟩⟩

theorem rule_track_advance_c0x9xrule_spansOf_1x_c [GI : GTab] {b_0 : Bk} {b_0x1 : Bk} {r_0x1 : List Rule_sample} {b_0x2 : Bk} {r_0x2 : List Rule_sample} {b_0x3 : Bk} {r_0x3 : List Rule_sample} {b_2 : Bk} {b_2x0 : Bk} {p0x0 : Rule_track} {p1x0 : Int} {p2x0 : List Rule_span} {r : Rule_track × (List Rule_span)} (h : rule_track_advance_c0x9xrule_spansOf_1x p0x0 p1x0 p2x0 = some r) : ACall Tryz.prog 131 [.ptr b_0 0,I p1x0] [(b_0,.cells [.rptr [.str p0x0.rule_.Key,.str p0x0.rule_.Metric,I p0x0.rule_.Agg,I p0x0.rule_.Long,.bool p0x0.rule_.Above,I p0x0.rule_.On,I p0x0.rule_.Off,I p0x0.rule_.Hold,I p0x0.rule_.Rest,I p0x0.rule_.Empty],.sl 2 b_0x1 r_0x1.length p0x0.window_.length,.sl 2 b_0x2 r_0x2.length p0x0.least_.length,.sl 2 b_0x3 r_0x3.length p0x0.most_.length,I p0x0.sum_,I p0x0.state_,I p0x0.since_,.bool p0x0.firing_,I p0x0.began_,.func (.func 130) [.ptr b_2 0]]),(b_0x1,aE5 (r_0x1 ++ p0x0.window_)),(b_0x2,aE5 (r_0x2 ++ p0x0.least_)),(b_0x3,aE5 (r_0x3 ++ p0x0.most_)),(b_2,.cells [.sl 2 b_2x0 0 p2x0.length]),(b_2x0,aE6 p2x0)] (T7 (fun c_0x1 s_0x1 c_0x2 s_0x2 c_0x3 s_0x3 c_2x0=>[(b_0,.cells [.rptr [.str p0x0.rule_.Key,.str p0x0.rule_.Metric,I p0x0.rule_.Agg,I p0x0.rule_.Long,.bool p0x0.rule_.Above,I p0x0.rule_.On,I p0x0.rule_.Off,I p0x0.rule_.Hold,I p0x0.rule_.Rest,I p0x0.rule_.Empty],.sl 2 c_0x1 s_0x1.length r.1.window_.length,.sl 2 c_0x2 s_0x2.length r.1.least_.length,.sl 2 c_0x3 s_0x3.length r.1.most_.length,I r.1.sum_,I r.1.state_,I r.1.since_,.bool r.1.firing_,I r.1.began_,.func (.func 130) [.ptr b_2 0]]),(c_0x1,aE5 (s_0x1 ++ r.1.window_)),(c_0x2,aE5 (s_0x2 ++ r.1.least_)),(c_0x3,aE5 (s_0x3 ++ r.1.most_)),(b_2,.cells [.sl 2 c_2x0 0 r.2.length]),(c_2x0,aE6 r.2)]) (fun c_0x1 s_0x1 c_0x2 s_0x2 c_0x3 s_0x3 c_2x0=>.tup [])) := by
  unfold rule_track_advance_c0x9xrule_spansOf_1x at h
  refine ACall.lessH ?_
  refine ACall.bodyN Tryz.func131 J Tryz.ntmps131 Tryz.results131 J J ?_
  refine ATodo.block<|ATodo.loopI (fun x : (List Rule_sample) × (List Rule_sample) × (List Rule_sample) × Int × Int × Int × Bool × Int × (List Rule_span)=>rule_track_advance_c0x9xrule_spansOf_1x_b1 p0x0 p1x0 x.1 x.2.1 x.2.2.1 x.2.2.2.1 x.2.2.2.2.1 x.2.2.2.2.2.1 x.2.2.2.2.2.2.1 x.2.2.2.2.2.2.2.1 x.2.2.2.2.2.2.2.2) (fun x σ'=>∃ (b17 : Bk) (r19 : List Rule_sample) (b20 : Bk) (r22 : List Rule_sample) (b23 : Bk) (r25 : List Rule_sample) (b31 : Bk),σ' = ⟨47,[(0,.ptr b_0 0),(1,I p1x0)],[(b_0,.cells [.rptr [.str p0x0.rule_.Key,.str p0x0.rule_.Metric,I p0x0.rule_.Agg,I p0x0.rule_.Long,.bool p0x0.rule_.Above,I p0x0.rule_.On,I p0x0.rule_.Off,I p0x0.rule_.Hold,I p0x0.rule_.Rest,I p0x0.rule_.Empty],.sl 2 b17 r19.length x.1.length,.sl 2 b20 r22.length x.2.1.length,.sl 2 b23 r25.length x.2.2.1.length,I x.2.2.2.1,I x.2.2.2.2.1,I x.2.2.2.2.2.1,.bool x.2.2.2.2.2.2.1,I x.2.2.2.2.2.2.2.1,.func (.func 130) [.ptr b_2 0]]),(b17,aE5 (r19 ++ x.1)),(b20,aE5 (r22 ++ x.2.1)),(b23,aE5 (r25 ++ x.2.2.1)),(b_2,.cells [.sl 2 b31 0 x.2.2.2.2.2.2.2.2.length]),(b31,aE6 x.2.2.2.2.2.2.2.2)]⟩) h ?_ ?_
  · exact ImpX.lq [0,0,0,0,0,0] ⟨b_0x1,r_0x1,b_0x2,r_0x2,b_0x3,r_0x3,b_2x0,J⟩ J J
  · intro x z1 σ' J1 hmk h hJ1 hA1
    obtain ⟨l18, l21, l24, n26, n27, n28, c29, n30, l32⟩ := x
    obtain ⟨b17, r19, b20, r22, b23, r25, b31, rfl⟩ := hmk
    replace h : rule_track_advance_c0x9xrule_spansOf_1x_b1 p0x0 p1x0 l18 l21 l24 n26 n27 n28 c29 n30 l32 = some z1 := h
    unfold rule_track_advance_c0x9xrule_spansOf_1x_b1 at h
    refine ATodo.block<|tSR<|rM J J<|bndE h fun v33 e1 h=>t_call0 J (rule_track_due_c e1) (CoL.refl _) (.cons .p0 (.cons .p0 (.cons .p0 (.cons .p0 .nil)))) J J<|rA J J<|rN<|tS<|tSR<|rM J J<|rM J J<|ARun.qv (q_min J J) J<|ARun.qv (q_geq J J) J<|rN<|ATodo.cond_d J (fun hc=>?_) (fun hc=>?_)
    · refine have h := iteT hc h; ATodo.ret<|have h := outL h hA1; ?_
      obtain rfl := Option.some.inj h
      exact ImpX.here ⟨_,.nil,_,.cons .p0 (.cons .p0 (.cons .p0 (.cons .p0 (.cons .p0 (.cons .p0 .nil))))),⟨b17,r19,b20,r22,b23,r25,b31,J,J⟩⟩
    · refine have h := iteF hc h; tK<|tSR<|rM J J<|rM J J<|bndE h fun v34 e2 h=>t_call6 J (rule_track_drop_c e2) (CoL.refl _) (.cons .p0 (.cons .p0 (.cons .p0 (.cons .p0 .nil)))) (fun _ _ _ _ _ _=>J) J fun b35 r36 b37 r38 b39 r40=>rN<|tSR<|rM J J<|rM J J<|bndE h fun v41 e3 h=>t_call6 J (rule_track_update_c e3) (CoL.refl _) (.cons .p0 (.cons .p0 (.cons .p0 (.cons .p0 .nil)))) (fun _ _ _ _ _ _=>J) J fun b42 r43 b44 r45 b46 r47=>rN<|tSR<|rM J J<|t_call0 J (rule_track_turn_c (J : rule_track_turn (⟨p0x0.rule_,v41.window_,v41.least_,v41.most_,v41.sum_,v41.state_,v41.since_,v41.firing_,v41.began_⟩ : Rule_track) = _)) (CoL.refl _) (.cons .p0 (.cons .p0 (.cons .p0 (.cons .p0 .nil)))) J J<|rM J J<|ARun.qv (q_eql J J) J<|rN<|ATodo.cut (fun σ'=>∃ (b50 : Bk) (c48 : Bool) (n49 : Int) (l51 : List Rule_span),rule_track_advance_c0x9xrule_spansOf_1x_j1 v41 c48 n49 l51 = some z1 ∧ σ' = ⟨47,[(0,.ptr b_0 0),(1,I p1x0)],[(b_0,.cells [.rptr [.str p0x0.rule_.Key,.str p0x0.rule_.Metric,I p0x0.rule_.Agg,I p0x0.rule_.Long,.bool p0x0.rule_.Above,I p0x0.rule_.On,I p0x0.rule_.Off,I p0x0.rule_.Hold,I p0x0.rule_.Rest,I p0x0.rule_.Empty],.sl 2 b42 r43.length v41.window_.length,.sl 2 b44 r45.length v41.least_.length,.sl 2 b46 r47.length v41.most_.length,I v41.sum_,I v41.state_,I v41.since_,.bool c48,I n49,.func (.func 130) [.ptr b_2 0]]),(b42,aE5 (r43 ++ v41.window_)),(b44,aE5 (r45 ++ v41.least_)),(b46,aE5 (r47 ++ v41.most_)),(b_2,.cells [.sl 2 b50 0 l51.length]),(b50,aE6 l51)]⟩) ?_ ?_
      · refine ATodo.cond_d J (fun hc=>?_) (fun hc=>?_)
        · refine have h := iteT hc h; tSR<|rM J J<|rM J J<|ARun.qv (q_nilCheck_ptr J) J<|rF J J J<|rL J J .p0 J J<|ARun.qv (q_not J) J<|ARun.qv (q_nilCheck_ptr J) J<|rF J J J<|n_store_ptr J J J J .p0 J J<|rN<|tS<|tSR<|rM J J<|ARun.qv (q_nilCheck_ptr J) J<|rF J J J<|rL J J .p0 J J<|rN<|ATodo.cut (fun σ'=>∃ (n52 : Int),rule_track_advance_c0x9xrule_spansOf_1x_j2 l32 v33 v41 n52 = some z1 ∧ σ' = ⟨47,[(0,.ptr b_0 0),(1,I p1x0),(4,I v33)],[(b_0,.cells [.rptr [.str p0x0.rule_.Key,.str p0x0.rule_.Metric,I p0x0.rule_.Agg,I p0x0.rule_.Long,.bool p0x0.rule_.Above,I p0x0.rule_.On,I p0x0.rule_.Off,I p0x0.rule_.Hold,I p0x0.rule_.Rest,I p0x0.rule_.Empty],.sl 2 b42 r43.length v41.window_.length,.sl 2 b44 r45.length v41.least_.length,.sl 2 b46 r47.length v41.most_.length,I v41.sum_,I v41.state_,I v41.since_,.bool (!v41.firing_),I n52,.func (.func 130) [.ptr b_2 0]]),(b42,aE5 (r43 ++ v41.window_)),(b44,aE5 (r45 ++ v41.least_)),(b46,aE5 (r47 ++ v41.most_)),(b_2,.cells [.sl 2 b31 0 l32.length]),(b31,aE6 l32)]⟩) ?_ ?_
          · refine ATodo.cond J (fun hc=>?_) (fun hc=>?_)
            · exact have h := iteT hc h; tR<|rM J J<|rM J J<|ARun.qv (q_nilCheck_ptr J) J<|rF J J J<|n_store_ptr J J J J .p0 J J<|rN<|ATodo.stop<|ImpX.lq [0,0,0,0,0,0] ⟨v33,h,J⟩ J J
            · exact have h := iteFb hc h; tK<|ATodo.stop<|ImpX.lq [0,0,0,0,0,0] ⟨v41.began_,h,J⟩ J J
          · rintro σ' ⟨n52, h, rfl⟩
            unfold rule_track_advance_c0x9xrule_spansOf_1x_j2 at h
            exact ATodo.regionM (id := 8) (A := [0,1,3,7,0,0,32,96,224,511]) 9 mixed J (by kernel_rfl) (by kernel_rfl)<|AM.qv (q_move J) J<|AM.qv (q_nilCheck_ptr J) J<|AM.qv (n_field_ptr J J) J<|AM.qv (q_load_ptr J J .p0 J) J<|AM.qv (q_move J) J<|AM.qv (q_move J) J<|AM.qv (q_nilCheck_ptr J) J<|AM.qv (n_field_ptr J J) J<|AM.qv (q_load_ptr J J .p0 J) J<|AM.nil<|bndE h fun v53 e4 h=>t_callv1 J J J (rule_spansOf_1x_c e4) (CoL.refl _) (.cons .p4 (.cons .p4 .nil)) (fun _=>J) J fun b54=>rN<|ATodo.stop<|ImpX.lq [2,2,2,2,0,0] ⟨b54,!v41.firing_,n52,v53,h,J⟩ J J
        · exact have h := iteF hc h; tK<|ATodo.stop<|ImpX.lq [0,0,0,0,0,0] ⟨b31,v41.firing_,v41.began_,l32,h,J⟩ J J
      · rintro σ' ⟨b50, c48, n49, l51, h, rfl⟩
        unfold rule_track_advance_c0x9xrule_spansOf_1x_j1 at h
        refine ATodo.blk<|ATodo.stop<|?_
        obtain rfl := Option.some.inj h
        exact hJ1 _ _ J<|ImpX.lq [0,0,0,0,0,0] ⟨b42,r43,b44,r45,b46,r47,b50,J⟩ J J

theorem rule_spansOf_c [GI : GTab] {p0x0 : Rule} {p1x0 : List Rule_sample} {r : (List Rule_span)} (h : rule_spansOf p0x0 p1x0 = some r) : ACall Tryz.prog 70 [.rptr [.str p0x0.Key,.str p0x0.Metric,I p0x0.Agg,I p0x0.Long,.bool p0x0.Above,I p0x0.On,I p0x0.Off,I p0x0.Hold,I p0x0.Rest,I p0x0.Empty],lE5 p1x0] [] (T1 (fun d_0=>[(d_0,aE6 r)]) (fun d_0=>.sl 2 d_0 0 r.length)) := by
  unfold rule_spansOf at h
  refine ACall.lessH ?_
  refine ACall.bodyN Tryz.func70 J Tryz.ntmps70 Tryz.results70 J J ?_
  refine tSR<|rA J J<|rN<|tSR<|n_alloc J J J J fun b1=>rN<|tSR<|rM J J<|ARun.qv (q_makeFunc J) J<|bndE h fun v2 e1 h=>t_call7 J (rule_newTrack_c e1) (CoL.refl _) .nil (fun _ _ _ _ _ _ _=>J) J fun b3 b4 r5 b6 r7 b8 r9=>rA J J<|rN<|tS<|tSR<|rM J J<|ARun.qv (t_len J) J<|rM J J<|rN<|ATodo.block<|ATodo.loopI (fun x : (List Rule_span) × (List Rule_sample) × (List Rule_sample) × (List Rule_sample) × Int × Int × Int × Bool × Int × Int=>rule_spansOf_b1 p0x0 p1x0 x.1 x.2.1 x.2.2.1 x.2.2.2.1 x.2.2.2.2.1 x.2.2.2.2.2.1 x.2.2.2.2.2.2.1 x.2.2.2.2.2.2.2.1 x.2.2.2.2.2.2.2.2.1 x.2.2.2.2.2.2.2.2.2) (fun x σ'=>∃ (b27 : Bk) (b29 : Bk) (r31 : List Rule_sample) (b32 : Bk) (r34 : List Rule_sample) (b35 : Bk) (r37 : List Rule_sample),σ' = ⟨29,[(5,.ptr b1 0),(6,.ptr b3 0),(12,lE5 p1x0),(13,I (p1x0.length : Int)),(14,I x.2.2.2.2.2.2.2.2.2)],[(b1,.cells [.sl 2 b27 0 x.1.length]),(b27,aE6 x.1),(b3,.cells [.rptr [.str p0x0.Key,.str p0x0.Metric,I p0x0.Agg,I p0x0.Long,.bool p0x0.Above,I p0x0.On,I p0x0.Off,I p0x0.Hold,I p0x0.Rest,I p0x0.Empty],.sl 2 b29 r31.length x.2.1.length,.sl 2 b32 r34.length x.2.2.1.length,.sl 2 b35 r37.length x.2.2.2.1.length,I x.2.2.2.2.1,I x.2.2.2.2.2.1,I x.2.2.2.2.2.2.1,.bool x.2.2.2.2.2.2.2.1,I x.2.2.2.2.2.2.2.2.1,.func (.func 130) [.ptr b1 0]]),(b29,aE5 (r31 ++ x.2.1)),(b32,aE5 (r34 ++ x.2.2.1)),(b35,aE5 (r37 ++ x.2.2.2.1))]⟩) h ?_ ?_
  · exact ImpX.arrBox (j := 0) 2 (fun _=>.p4) J (fun _=>J) (fun _=>J) fun b44=>ImpX.lq [5,0,0,0,0,0] ⟨b44,b4,r5,b6,r7,b8,r9,J⟩ J J
  · intro x z1 σ' J1 hmk h hJ1 hA1
    obtain ⟨l28, l30, l33, l36, n38, n39, n40, c41, n42, n43⟩ := x
    obtain ⟨b27, b29, r31, b32, r34, b35, r37, rfl⟩ := hmk
    replace h : rule_spansOf_b1 p0x0 p1x0 l28 l30 l33 l36 n38 n39 n40 c41 n42 n43 = some z1 := h
    unfold rule_spansOf_b1 at h
    refine tSR<|ARun.qv (q_lss J J) J<|rN<|tS<|ATodo.cond_d J (fun hc=>?_) (fun hc=>?_)
    · refine have h := iteT hc h; tK<|tS<|ATodo.block<|tSR<|bndE h fun v45 e2 h=>ARun.qv (t_index J J J e2 J J) J<|ARun.qv (q_load_rptr_agg J J J) J<|n_alloc J J J J fun b46=>n_store_ptr J J J J .p0 J J<|rN<|tSR<|rM J J<|rF J J J<|rL J J .p0 J J<|bndE h fun v47 e3 h=>t_call7 J (rule_track_advance_c0x9xrule_spansOf_1x_c e3) (CoL.refl _) (.cons .p3 (.cons .p3 (.cons .p3 (.cons .p3 (.cons .p1 (.cons .p1 .nil)))))) (fun _ _ _ _ _ _ _=>J) J fun b48 r49 b50 r51 b52 r53 b54=>rN<|tR<|rM J J<|ARun.qv (q_load_ptr_all J J .p6 J) J<|bndE h fun v55 e4 h=>t_call6 J (rule_track_put_c e4) (CoL.refl _) (.cons .p0 (.cons .p0 (.cons .p0 (.cons .p0 .nil)))) (fun _ _ _ _ _ _=>J) J fun b56 r57 b58 r59 b60 r61=>rN<|ATodo.blk<|tR<|ARun.qv (q_addw J J) J<|rM J J<|rN<|ATodo.stop<|?_
      obtain rfl := Option.some.inj h
      exact hJ1 _ _ J<|ImpX.lq [4,4,0,0,0,0] ⟨b54,b56,r57,b58,r59,b60,r61,J⟩ J J
    · refine have h := iteF hc h; ATodo.exit J<|have h := outL h hA1; ?_
      unfold rule_spansOf_k1 at h
      refine tSR<|rM J J<|bndE h fun v62 e5 h=>t_call7 J (rule_track_advance_c0x9xrule_spansOf_1x_c e5) (CoL.refl _) (.cons .p2 (.cons .p2 (.cons .p2 (.cons .p2 (.cons .p0 (.cons .p0 .nil)))))) (fun _ _ _ _ _ _ _=>J) J fun b63 r64 b65 r66 b67 r68 b69=>rN<|tSR<|rL J J .p4 J J<|rA J J<|rN<|ATodo.ret<|?_
      obtain rfl := Option.some.inj h
      exact ImpX.here ⟨_,.cons (.tmp _ _ J) .nil,_,.cons .p5 .nil,⟨b69,J,J⟩⟩

theorem rule_whole_c [GI : GTab] {p0x0 : Rule} {p1x0 : List Sample} {r : (List Spell)} (h : rule_whole p0x0 p1x0 = some r) : ACall Tryz.prog 74 [.rptr [.str p0x0.Key,.str p0x0.Metric,I p0x0.Agg,I p0x0.Long,.bool p0x0.Above,I p0x0.On,I p0x0.Off,I p0x0.Hold,I p0x0.Rest,I p0x0.Empty],lE3 p1x0] [] (T1 (fun d_0=>[(d_0,aE7 r)]) (fun d_0=>.sl 4 d_0 0 r.length)) := by
  unfold rule_whole at h
  refine ACall.lessH ?_
  refine ACall.bodyN Tryz.func74 J Tryz.ntmps74 Tryz.results74 J J ?_
  refine tSR<|rA J J<|rN<|tSR<|t_makeMapO (gk := AV.str) (kp := (keptS 2 Rule_sample.av)) (β := (fun _=>⟨none,0⟩)) J fun b1 b2=>rA J J<|rN<|tS<|tSR<|rM J J<|ARun.qv (t_len J) J<|rM J J<|rN<|ATodo.block<|ATodo.loopI (fun x : (List (Str × (List Rule_sample))) × Int=>rule_whole_b1 p0x0 p1x0 x.1 x.2) (fun x σ'=>∃ (be7 : Str → Bk),σ' = ⟨79,[(0,.rptr [.str p0x0.Key,.str p0x0.Metric,I p0x0.Agg,I p0x0.Long,.bool p0x0.Above,I p0x0.On,I p0x0.Off,I p0x0.Hold,I p0x0.Rest,I p0x0.Empty]),(1,lE3 p1x0),(5,.mref b1),(14,lE3 p1x0),(15,I (p1x0.length : Int)),(16,I x.2)],[(b1,.mp (mapE AV.str (keptS 2 Rule_sample.av) be7 x.1)),(b2,.pool (poolE (keptS 2 Rule_sample.av) be7 x.1))]⟩) h ?_ ?_
  · exact ImpX.lq [0,0] ⟨(fun _=>⟨none,0⟩),J⟩ J J
  · intro x z1 σ' J1 hmk h hJ1 hA1
    obtain ⟨l6, n8⟩ := x
    obtain ⟨be7, rfl⟩ := hmk
    replace h : rule_whole_b1 p0x0 p1x0 l6 n8 = some z1 := h
    unfold rule_whole_b1 at h
    refine tSR<|ARun.qv (q_lss J J) J<|rN<|tS<|ATodo.cond_d J (fun hc=>?_) (fun hc=>?_)
    · refine have h := iteT hc h; tK<|tS<|ATodo.block<|tSR<|bndE h fun v9 e1 h=>ARun.qv (t_index J J J e1 J J) J<|ARun.qv (q_load_rptr_agg J J J) J<|n_alloc J J J J fun b10=>n_store_ptr J J J J .p0 J J<|rN<|tS<|ATodo.regionM (id := 5) (A := [0,1,0,4,12,28,63]) 7 mixed J (by kernel_rfl) (by kernel_rfl)<|AM.qv (n_field_ptr J J) J<|AM.qv (q_load_ptr J J .p0 J) J<|AM.qv (q_move J) J<|AM.qv (q_nilCheck_rptr J) J<|AM.qv (n_field_rptr J J) J<|AM.qv (q_load_rptr J J J) J<|AM.qv (q_seq J J) J<|AM.nil<|rN<|ATodo.cut (fun σ'=>∃ (be12 : Str → Bk) (l11 : List (Str × (List Rule_sample))),rule_whole_j1 n8 l11 = some z1 ∧ σ' = ⟨79,[(0,.rptr [.str p0x0.Key,.str p0x0.Metric,I p0x0.Agg,I p0x0.Long,.bool p0x0.Above,I p0x0.On,I p0x0.Off,I p0x0.Hold,I p0x0.Rest,I p0x0.Empty]),(1,lE3 p1x0),(5,.mref b1),(14,lE3 p1x0),(15,I (p1x0.length : Int)),(16,I n8)],[(b1,.mp (mapE AV.str (keptS 2 Rule_sample.av) be12 l11)),(b2,.pool (poolE (keptS 2 Rule_sample.av) be12 l11))]⟩) ?_ ?_
      · refine ATodo.cond_d J (fun hc=>?_) (fun hc=>?_)
        · refine have h := iteT hc h; bndE h fun v13 e2 h=>bndE h fun l15 e3 h=>ATodo.regionT (id := 6) (A := [0,0,2,0,0,16,56,0,128,0,512,1920,3968,8184,16383]) (H0 := [(b1,.mp (mapE AV.str (keptS 2 Rule_sample.av) be7 l6)),(b2,.pool (poolE (keptS 2 Rule_sample.av) be7 l6))]) (HH := fun β=>[(b1,.mp (mapE AV.str (keptS 2 Rule_sample.av) be7 l6)),(b2,.pool (poolE (keptS 2 Rule_sample.av) be7 (mdel l6 v9.Device))),((β 13),aE5 l15),(b10,.cells (cE0 v9))]) 14 mixed J (by kernel_rfl) (by kernel_rfl) [⟨none,some 6,[],fun _=>(b1,.mp (mapE AV.str (keptS 2 Rule_sample.av) be7 l6)),none,[]⟩,⟨none,some 6,[],fun _=>(b2,.pool (poolE (keptS 2 Rule_sample.av) be7 l6)),none,[]⟩,⟨some 6,some 13,[],fun b=>(b,aE5 v13),none,[]⟩,⟨some 6,none,[],fun b=>(b1,.mp (mapE AV.str (keptS 2 Rule_sample.av) be7 l6)),none,[]⟩,⟨some 6,none,[],fun b=>(b2,.pool (poolE (keptS 2 Rule_sample.av) be7 (mdel l6 v9.Device))),none,[]⟩,⟨some 13,none,[],fun b=>(b,aE5 l15),none,[]⟩] [6,13] J (by kernel_rfl) J (.cons .p1 (.cons .p1 .nil)) (fun _=>J)<|AT.am 6 J J<|AM.qv (q_move J) J<|AM.qv (n_field_ptr J J) J<|AM.qv (q_load_ptr J J .p0 J) J<|AM.qv (q_move J) J<|AM.qv (n_field_ptr J J) J<|AM.qv (q_load_ptr J J .p0 J) J<|AM.nil<|AT.runD (V := fun b=>.sl 2 b 0 v13.length) (Ti := [(b1,.mp (mapE AV.str (keptS 2 Rule_sample.av) be7 l6)),(b2,.pool (poolE (keptS 2 Rule_sample.av) be7 l6))]) (Pi := fun b=>[(b,aE5 v13),(b1,.mp (mapE AV.str (keptS 2 Rule_sample.av) be7 l6)),(b2,.pool (poolE (keptS 2 Rule_sample.av) be7 (mdel l6 v9.Device)))]) (fun _=>J) (fun _=>J) (fun _ _=>J) J (fun _=>J) J J J ?_ ?_
          · exact t_lookupS (gk := AV.str) (sz := 2) (g := Rule_sample.av) (β := be7) (M := l6) (key := v9.Device) J J .p0 .p1 J e2 J fun b14 hbe2=>ARun.nil ⟨b14,_,J,J⟩
          refine AT.am 6 J J<|AM.qv (n_field_ptr J J) J<|AM.qv (q_load_ptr J J .p0 J) J<|AM.qv (n_field_ptr J J) J<|AM.qv (q_load_ptr J J .p0 J) J<|AM.qv (n_build J J J J J) J<|AM.buildSliceL (xs := ([(⟨v9.At,v9.Value⟩ : Rule_sample)]).map Rule_sample.av) J J J J J J<|AM.nil<|AT.runE (V := fun b=>.sl 2 b 0 l15.length) (Ti := fun β=>[((β 6),aE5 v13)]) (Pi := fun b=>[(b,aE5 l15)]) (fun _=>J) (fun _=>J) (fun _ _=>J) (fun _=>J) (fun _=>J) J J J (fun β=>?_) ?_
          · generalize β 6 = b14
            exact t_append (g := Rule_sample.av) J J J J J J J J (.list _) e3 (fun _=>.p0) J fun b16=>ARun.nil ⟨b16,_,J,J⟩
          refine AT.nilN (fun _=>J) fun β=>?_
          generalize β 6 = b14
          generalize β 13 = b16
          clear β
          exact t_mapUpdateO (gk := AV.str) (kp := (keptS 2 Rule_sample.av)) (β := be7) (M := l6) (key := v9.Device) (v := l15) (b := b16) J J J J .p0<|ARun.ghost<|ImpX.poolPut (kp := (keptS 2 Rule_sample.av)) (β := be7) (M := l6) (key := v9.Device) (v := l15) J .p2 .p1<|ImpX.here<|rN<|ATodo.stop<|ImpX.lq [0,0] ⟨(updK be7 v9.Device b16),mset l6 v9.Device l15,h,J⟩ J J
        · exact have h := iteF hc h; tK<|ATodo.stop<|ImpX.lq [1,1] ⟨be7,l6,h,J⟩ J J
      · rintro σ' ⟨be12, l11, h, rfl⟩
        unfold rule_whole_j1 at h
        refine ATodo.blk<|tR<|ARun.qv (q_addw J J) J<|rM J J<|rN<|ATodo.stop<|?_
        obtain rfl := Option.some.inj h
        exact hJ1 _ _ J<|ImpX.lq [0,0] ⟨be12,J⟩ J J
    · refine have h := iteF hc h; ATodo.exit J<|have h := outL h hA1; ?_
      unfold rule_whole_k2 at h
      refine tSR<|rA J J<|rN<|tS<|tSR<|rM J J<|rM J J<|ARun.qv (q_nilCheck_rptr J) J<|ARun.qv (n_field_rptr J J) J<|ARun.qv (q_load_rptr J J J) J<|bndE h fun v17 e4 h=>t_call1 J (rule_devices_c e4) (CoL.refl _) .nil (fun _=>J) J fun b18=>ARun.qv (t_len_sl J) J<|rM J J<|rN<|ATodo.block<|ATodo.loopI (fun x : (List Spell) × Int=>rule_whole_b2 p0x0 l6 v17 x.1 x.2) (fun x σ'=>∃ (b22 : Bk),σ' = ⟨79,[(0,.rptr [.str p0x0.Key,.str p0x0.Metric,I p0x0.Agg,I p0x0.Long,.bool p0x0.Above,I p0x0.On,I p0x0.Off,I p0x0.Hold,I p0x0.Rest,I p0x0.Empty]),(5,.mref b1),(8,.sl 4 b22 0 x.1.length),(47,.sl 1 b18 0 v17.length),(48,I (v17.length : Int)),(49,I x.2)],[(b1,.mp (mapE AV.str (keptS 2 Rule_sample.av) be7 l6)),(b2,.pool (poolE (keptS 2 Rule_sample.av) be7 l6)),(b22,aE7 x.1),(b18,aE1 v17)]⟩) h ?_ ?_
      · exact ImpX.arr (s := 8) 4 J fun b25=>ImpX.lq [2,2,0,0] ⟨b25,J⟩ J J
      · intro x z2 σ' J2 hmk h hJ2 hA2
        obtain ⟨l23, n24⟩ := x
        obtain ⟨b22, rfl⟩ := hmk
        replace h : rule_whole_b2 p0x0 l6 v17 l23 n24 = some z2 := h
        unfold rule_whole_b2 at h
        refine tSR<|ARun.qv (q_lss J J) J<|rN<|tS<|ATodo.cond_d J (fun hc=>?_) (fun hc=>?_)
        · refine have h := iteT hc h; tK<|tS<|ATodo.block<|tSR<|bndE h fun v26 e5 h=>ARun.qv (t_index_sl J J J e5) J<|ARun.qv (t_load_aptr (g := AV.str) J J (.inl .p3) e5 J) J<|rA J J<|rN<|tSR<|rM J J<|rM J J<|rM J J<|bndE h fun v27 e6 h=>t_lookupS (gk := AV.str) (sz := 2) (g := Rule_sample.av) (β := be7) (M := l6) (key := v26) J J .p0 .p1 J e6 J fun b28 hbe6=>bndE h fun v29 e7 h=>t_callL1 J (rule_spansOf_c e7) .nil (.cons (.co (.refl _)) (.cons (CoB.arrT .p0) .nil)) (fun _=>J) (fun _=>J) (fun _=>(.cons (NoS.arrT (fun _=>J)) .nil)) J fun b30=>ARun.qv (t_len_sl J) J<|rM J J<|ARun.ghost<|ImpX.backS (gk := AV.str) (sz := 2) (g := Rule_sample.av) (β := be7) (M := l6) (key := v26) (MKey.inj Tryz.prog 9) e6 hbe6 .p2 .p1 .p2<|ImpX.here<|rN<|ATodo.block<|ATodo.loopI (fun x : (List Spell) × Int=>rule_whole_b3 p0x0 n24 v26 v29 x.1 x.2) (fun x σ'=>∃ (b34 : Bk),σ' = ⟨79,[(0,.rptr [.str p0x0.Key,.str p0x0.Metric,I p0x0.Agg,I p0x0.Long,.bool p0x0.Above,I p0x0.On,I p0x0.Off,I p0x0.Hold,I p0x0.Rest,I p0x0.Empty]),(5,.mref b1),(8,.sl 4 b34 0 x.1.length),(10,.str v26),(47,.sl 1 b18 0 v17.length),(48,I (v17.length : Int)),(49,I n24),(57,.sl 2 b30 0 v29.length),(58,I (v29.length : Int)),(59,I x.2)],[(b1,.mp (mapE AV.str (keptS 2 Rule_sample.av) be7 l6)),(b2,.pool (poolE (keptS 2 Rule_sample.av) be7 l6)),(b34,aE7 x.1),(b18,aE1 v17),(b30,aE6 v29)]⟩) h ?_ ?_
          · exact ImpX.lq [1,1,1,1,0] ⟨b22,J⟩ J J
          · intro x z3 σ' J3 hmk h hJ3 hA3
            obtain ⟨l35, n36⟩ := x
            obtain ⟨b34, rfl⟩ := hmk
            replace h : rule_whole_b3 p0x0 n24 v26 v29 l35 n36 = some z3 := h
            unfold rule_whole_b3 at h
            refine tSR<|ARun.qv (q_lss J J) J<|rN<|tS<|ATodo.cond_d J (fun hc=>?_) (fun hc=>?_)
            · refine have h := iteT hc h; tK<|tS<|ATodo.block<|tSR<|bndE h fun v37 e8 h=>ARun.qv (t_index_sl J J J e8) J<|ARun.qv (t_load_aptr_agg (g := Rule_span.av) J J (.inl .p4) J e8 J) J<|n_alloc J J J J fun b38=>n_store_ptr J J J J .p0 J J<|rN<|ATodo.regionM (id := 15) (A := [0,0,0,4,12,28,0,64,0,256,1022,2046,4095,8191]) 12 mixed J (by kernel_rfl) (by kernel_rfl)<|AM.qv (q_move J) J<|AM.qv (q_move J) J<|AM.qv (q_move J) J<|AM.qv (q_nilCheck_rptr J) J<|AM.qv (n_field_rptr J J) J<|AM.qv (q_load_rptr J J J) J<|AM.qv (n_field_ptr J J) J<|AM.qv (q_load_ptr J J .p0 J) J<|AM.qv (n_field_ptr J J) J<|AM.qv (q_load_ptr J J .p0 J) J<|AM.qv (n_build J J J J J) J<|AM.buildSliceL (xs := ([(⟨v26,p0x0.Key,v37.from_,v37.to_⟩ : Spell)]).map Spell.av) J J J J J J<|AM.nil<|bndE h fun l39 e9 h=>t_append (g := Spell.av) J J J J J J J J (.list _) e9 (fun _=>.p3) J fun b40=>rA J J<|rN<|ATodo.blk<|tR<|ARun.qv (q_addw J J) J<|rM J J<|rN<|ATodo.stop<|?_
              obtain rfl := Option.some.inj h
              exact hJ3 _ _ J<|ImpX.lq [1,1,1,1,1] ⟨b40,J⟩ J J
            · refine have h := iteF hc h; ATodo.exit J<|have h := outL h hA3; ATodo.blk<|tR<|ARun.qv (q_addw J J) J<|rM J J<|rN<|ATodo.stop<|?_
              obtain rfl := Option.some.inj h
              exact hJ2 _ _ J<|ImpX.lq [0,0,0,0] ⟨b34,J⟩ J J
        · refine have h := iteF hc h; ATodo.exit J<|have h := outL h hA2; tSR<|rM J J<|rA J J<|rN<|ATodo.ret<|?_
          obtain rfl := Option.some.inj h
          exact ImpX.here ⟨_,.cons (.tmp _ _ J) .nil,_,.cons .p2 .nil,⟨b22,J,J⟩⟩

theorem rule_cut_c [GI : GTab] {p0x0 : List Spell} {p1x0 : Window} {r : (List Spell)} (h : rule_cut p0x0 p1x0 = some r) : ACall Tryz.prog 73 [lE7 p0x0,Window.av p1x0] [] (T1 (fun d_0=>[(d_0,aE7 r)]) (fun d_0=>.sl 4 d_0 0 r.length)) := by
  unfold rule_cut at h
  refine ACall.lessH ?_
  refine ACall.bodyN Tryz.func73 J Tryz.ntmps73 Tryz.results73 J J ?_
  refine tSR<|n_box J J J J fun b1=>rA J J<|rN<|tSR<|rA J J<|rN<|tS<|tSR<|rM J J<|ARun.qv (t_len J) J<|rM J J<|rN<|ATodo.block<|ATodo.loopI (fun x : (List Spell) × Int=>rule_cut_b1 p0x0 p1x0 x.1 x.2) (fun x σ'=>∃ (b5 : Bk),σ' = ⟨37,[(3,.ptr b1 0),(5,.sl 4 b5 0 x.1.length),(8,lE7 p0x0),(9,I (p0x0.length : Int)),(10,I x.2)],[(b1,.cells [I p1x0.From,I p1x0.To]),(b5,aE7 x.1)]⟩) h ?_ ?_
  · exact ImpX.arr (s := 5) 4 J fun b8=>ImpX.lq [1,0] ⟨b8,J⟩ J J
  · intro x z1 σ' J1 hmk h hJ1 hA1
    obtain ⟨l6, n7⟩ := x
    obtain ⟨b5, rfl⟩ := hmk
    replace h : rule_cut_b1 p0x0 p1x0 l6 n7 = some z1 := h
    unfold rule_cut_b1 at h
    refine tSR<|ARun.qv (q_lss J J) J<|rN<|tS<|ATodo.cond_d J (fun hc=>?_) (fun hc=>?_)
    · refine have h := iteT hc h; tK<|tS<|ATodo.block<|tSR<|bndE h fun v9 e1 h=>ARun.qv (t_index J J J e1 J J) J<|ARun.qv (q_load_rptr_agg J J J) J<|n_alloc J J J J fun b10=>n_store_ptr J J J J .p0 J J<|rN<|tS<|ATodo.regionT (id := 5) (A := [0,1,0,4,15,0,32,0,128,480,127,1151,4095,8191]) (H0 := [(b10,.cells [.str v9.Device,.str v9.Rule,I v9.From,I v9.To])]) (HH := fun β=>[(b10,.cells [.str v9.Device,.str v9.Rule,I (max v9.From p1x0.From),I v9.To]),(b1,.cells [I p1x0.From,I p1x0.To]),(b5,aE7 l6)]) 12 mixed J (by kernel_rfl) (by kernel_rfl) [⟨none,some 11,[1,6],fun _=>(b10,.cells [.str v9.Device,.str v9.Rule,I v9.From,I v9.To]),none,[]⟩,⟨some 11,none,[],fun _=>(b10,.cells [.str v9.Device,.str v9.Rule,I (max v9.From p1x0.From),I v9.To]),none,[]⟩] [] J (by kernel_rfl) J (.cons .p0 .nil) (fun _=>J)<|AT.am 1 J J<|AM.qv (n_field_ptr J J) J<|AM.nil<|AT.rd (Rs := [(b10,.cells [.str v9.Device,.str v9.Rule,I v9.From,I v9.To])]) (fun _=>J) J (fun _=>J) (fun _=>J) (q_load_ptr J J .p0 J) J<|AT.am 4 J J<|AM.qv (n_field_ptr J J) J<|AM.qv (q_load_ptr J J .p0 J) J<|AM.qv (q_max J J) J<|AM.qv (n_field_ptr J J) J<|AM.nil<|AT.rd (Rs := [(b10,.cells [.str v9.Device,.str v9.Rule,I v9.From,I v9.To])]) (fun _=>J) J (fun _=>J) (fun _=>J) (q_load_ptr J J .p0 J) J<|AT.am 4 J J<|AM.qv (n_field_ptr J J) J<|AM.qv (q_load_ptr J J .p0 J) J<|AM.qv (q_min J J) J<|AM.qv (n_field_ptr J J) J<|AM.nil<|AT.run0 (Ti := [(b10,.cells [.str v9.Device,.str v9.Rule,I v9.From,I v9.To])]) (Pi := [(b10,.cells [.str v9.Device,.str v9.Rule,I (max v9.From p1x0.From),I v9.To])]) (fun _=>J) (fun _=>J) (fun _=>J) J J ?_ ?_
      · exact n_store_ptr J J J J .p0 J J<|ARun.nil ⟨_,J⟩
      refine AT.nilN (fun _=>J) fun β=>rF J J J<|n_store_ptr J J J J .p0 J J<|rN<|tSR<|rF J J J<|rL J J .p0 J J<|rF J J J<|rL J J .p0 J J<|ARun.qv (q_lss J J) J<|rN<|ATodo.cut (fun σ'=>∃ (b11 : Bk) (l12 : List Spell),rule_cut_j1 n7 l12 = some z1 ∧ σ' = ⟨37,[(3,.ptr b1 0),(5,.sl 4 b11 0 l12.length),(8,lE7 p0x0),(9,I (p0x0.length : Int)),(10,I n7)],[(b1,.cells [I p1x0.From,I p1x0.To]),(b11,aE7 l12)]⟩) ?_ ?_
      · refine ATodo.cond_d J (fun hc=>?_) (fun hc=>?_)
        · exact have h := iteT hc h; tR<|rM J J<|ARun.qv (q_load_ptr_all J J .p0 J) J<|n_buildSliceL (xs := ([(⟨v9.Device,v9.Rule,max v9.From p1x0.From,min v9.To p1x0.To⟩ : Spell)]).map Spell.av) J J J J J J<|bndE h fun l13 e2 h=>t_append (g := Spell.av) J J J J J J J J (.list _) e2 (fun _=>.p2) J fun b14=>rA J J<|rN<|ATodo.stop<|ImpX.lq [1,1] ⟨b14,l13,h,J⟩ J J
        · exact have h := iteF hc h; tK<|ATodo.stop<|ImpX.lq [1,1] ⟨b5,l6,h,J⟩ J J
      · rintro σ' ⟨b11, l12, h, rfl⟩
        unfold rule_cut_j1 at h
        refine ATodo.blk<|tR<|ARun.qv (q_addw J J) J<|rM J J<|rN<|ATodo.stop<|?_
        obtain rfl := Option.some.inj h
        exact hJ1 _ _ J<|ImpX.lq [0,0] ⟨b11,J⟩ J J
    · refine have h := iteF hc h; ATodo.exit J<|have h := outL h hA1; tSR<|rM J J<|rA J J<|rN<|ATodo.ret<|?_
      obtain rfl := Option.some.inj h
      exact ImpX.here ⟨_,.cons (.tmp _ _ J) .nil,_,.cons .p1 .nil,⟨b5,J,J⟩⟩

theorem rule_byFrom_c [GI : GTab] {p0x0 : Spell} {p1x0 : Spell} {r : Int} (h : rule_byFrom p0x0 p1x0 = some r) : Pu Tryz.prog 76 [Spell.av p0x0,Spell.av p1x0] (I r) := by
  unfold rule_byFrom at h
  refine ACall.bodyN Tryz.func76 J Tryz.ntmps76 Tryz.results76 J J ?_
  refine tSR<|n_box J J J J fun b1=>n_box J J J J fun b2=>rA J J<|rN<|tS<|ATodo.regionM (id := 1) (A := [0,1,0,4,15,0,32,0,128,511,0,1024,0,4096,16383,32767,65535,131071]) 18 mixed J (by kernel_rfl) (by kernel_rfl)<|AM.qv (n_field_ptr J J) J<|AM.qv (q_load_ptr J J .p1 J) J<|AM.qv (n_field_ptr J J) J<|AM.qv (q_load_ptr J J .p0 J) J<|AM.callp J (cmp_Compare_int_c J) (CoL.refl _) J<|AM.qv (n_field_ptr J J) J<|AM.qv (q_load_ptr J J .p1 J) J<|AM.qv (n_field_ptr J J) J<|AM.qv (q_load_ptr J J .p0 J) J<|AM.callp J (strings_Compare_c J) (CoL.refl _) J<|AM.qv (n_field_ptr J J) J<|AM.qv (q_load_ptr J J .p1 J) J<|AM.qv (n_field_ptr J J) J<|AM.qv (q_load_ptr J J .p0 J) J<|AM.callp J (strings_Compare_c J) (CoL.refl _) J<|AM.buildSliceL (xs := ([(cmp_Compare_int p0x0.From p1x0.From),(Lib.compareBytes p0x0.Device p1x0.Device),(Lib.compareBytes p0x0.Rule p1x0.Rule)] : List Int).map I) J J J J J J<|bndE h fun v3 e1 h=>AM.callp J (cmp_Or_int_c e1) (CoL.refl _) J<|AM.qv (q_assign J) J<|AM.nil<|rN<|ATodo.ret<|?_
  obtain rfl := Option.some.inj h
  exact ImpX.here ⟨_,.cons (.tmp _ _ J) .nil,J⟩

theorem slices_SortFunc_Spell_Spell_k : SortK Tryz.prog 75 4 := ⟨fun enc hk h1 cf hO g cb blk off cap d w eg hc hH hb hs=>AnyQ.slices_SortFunc_eq Tryz.sortF75 4 Tryz.isAgg58 Tryz.sizeOf58 enc hk h1 cf hO g cb blk off cap d w eg hc hH hb hs,fun p cap fv w=>AnyF.slices_SortFunc_none Tryz.sortF75 p cap fv w⟩
theorem slices_SortFunc_Spell_Spell_c [GI : GTab] {b_0 : Bk} {p0x0 : List Spell} {fnb : Spell → Spell → Option Int} {fnb_F : FuncId} [IsFn Tryz.prog fnb_F] {fnb_C : List AV} (fnb_h : ∀ {y0 y1 : _} {u : Int},fnb y0 y1 = some u → @Pu strongT Tryz.prog fnb_F (Spell.av y0 :: Spell.av y1 :: fnb_C) (I u)) {r : (List Spell)} (h : slices_SortFunc_Spell_Spell p0x0 fnb = some r) : ACall Tryz.prog 75 [.sl 4 b_0 0 p0x0.length,.func (.func fnb_F) fnb_C] [(b_0,.arr 4 (p0x0.map Spell.av))] (T0 [(b_0,.arr 4 (r.map Spell.av))] (.tup [])) :=
  sort_acall (fn := fnb) slices_SortFunc_Spell_Spell_k J @fnb_h (fun _=>J) h

theorem rule_Spells_c [GI : GTab] {p0x0 : List Rule} {p1x0 : List Sample} {p2x0 : Window} {r : (List Spell) × Int} (h : rule_Spells p0x0 p1x0 p2x0 = some r) : ACall Tryz.prog 16 [lE2 p0x0,lE3 p1x0,Window.av p2x0] [] (T1 (fun d_0=>[(d_0,aE7 r.1)]) (fun d_0=>.tup [.sl 4 d_0 0 r.1.length,I r.2])) := by
  unfold rule_Spells at h
  refine ACall.lessH ?_
  refine ACall.bodyN Tryz.func16 J Tryz.ntmps16 Tryz.results16 J J ?_
  refine tSR<|n_box J J J J fun b1=>rA J J<|rA J J<|rN<|tS<|tSR<|rM J J<|rM J J<|ARun.qv (q_load_ptr_all J J .p0 J) J<|bndE h fun v2 e1 h=>r_callp J (rule_fault_c e1) (CoL.refl _) J<|rA J J<|rN<|tSR<|rM J J<|ARun.qv (q_neq J J) J<|rN<|ATodo.cond_d J (fun hc=>?_) (fun hc=>?_)
  · refine have h := iteT hc h; tSR<|rM J J<|rA J J<|rA J J<|rN<|ATodo.ret<|?_
    obtain rfl := Option.some.inj h
    exact ImpX.arr (s := 6) 4 J fun b3=>ImpX.here ⟨_,.cons (.tmp _ _ J) (.cons (.tmp _ _ J) .nil),_,.cons .p0 .nil,⟨b3,J,J⟩⟩
  · refine have h := iteF hc h; tK<|tSR<|rA J J<|rN<|tS<|tSR<|rM J J<|ARun.qv (t_len J) J<|rM J J<|rN<|ATodo.block<|ATodo.loopI (fun x : (List Spell) × Int=>rule_Spells_b1 p0x0 p1x0 p2x0 x.1 x.2) (fun x σ'=>∃ (b7 : Bk),σ' = ⟨36,[(0,lE2 p0x0),(1,lE3 p1x0),(5,.ptr b1 0),(9,.sl 4 b7 0 x.1.length),(19,I (p0x0.length : Int)),(20,I x.2)],[(b1,.cells [I p2x0.From,I p2x0.To]),(b7,aE7 x.1)]⟩) h ?_ ?_
    · exact ImpX.arr (s := 9) 4 J fun b10=>ImpX.lq [1,0] ⟨b10,J⟩ J J
    · intro x z1 σ' J1 hmk h hJ1 hA1
      obtain ⟨l8, n9⟩ := x
      obtain ⟨b7, rfl⟩ := hmk
      replace h : rule_Spells_b1 p0x0 p1x0 p2x0 l8 n9 = some z1 := h
      unfold rule_Spells_b1 at h
      refine tSR<|ARun.qv (q_lss J J) J<|rN<|tS<|ATodo.cond_d J (fun hc=>?_) (fun hc=>?_)
      · refine have h := iteT hc h; tK<|tS<|ATodo.block<|tSR<|rM J J<|rA J J<|rN<|bndE h fun v11 e2 h=>bndE h fun v12 e3 h=>bndE h fun v14 e4 h=>ATodo.regionT (id := 8) (A := [0,0,0,6,0,30,0,126,255,511]) (H0 := []) (HH := fun β=>[((β 7),aE7 v14),(b1,.cells [I p2x0.From,I p2x0.To]),(b7,aE7 l8)]) 8 mixed J (by kernel_rfl) (by kernel_rfl) [⟨some 5,some 7,[],fun b=>(b,aE7 v12),none,[]⟩,⟨some 7,none,[],fun b=>(b,aE7 v14),none,[]⟩] [5,7] J (by kernel_rfl) J .nil (fun _=>J)<|AT.am 5 J J<|AM.qv (q_move J) J<|AM.qv (q_move J) J<|AM.qv (q_move J) J<|AM.qv (t_index J J J e2 J J) J<|AM.qv (q_move J) J<|AM.nil<|AT.runD (V := fun b=>.sl 4 b 0 v12.length) (Ti := []) (Pi := fun b=>[(b,aE7 v12)]) (fun _=>J) (fun _=>J) (fun _ _=>J) J (fun _=>J) J J J ?_ ?_
        · exact t_call1 J (rule_whole_c e3) (CoL.refl _) .nil (fun _=>J) J fun b13=>ARun.nil ⟨b13,_,J,J⟩
        refine AT.am 1 J J<|AM.qv (q_load_ptr_all J J .p0 J) J<|AM.nil<|AT.runE (V := fun b=>.sl 4 b 0 v14.length) (Ti := fun β=>[((β 5),aE7 v12)]) (Pi := fun b=>[(b,aE7 v14)]) (fun _=>J) (fun _=>J) (fun _ _=>J) (fun _=>J) (fun _=>J) J J J (fun β=>?_) ?_
        · generalize β 5 = b13
          exact t_callL1 J (rule_cut_c e4) .nil (.cons (CoB.arrT .p0) (.cons (.co (.refl _)) .nil)) (fun _=>J) (fun _=>J) (fun _=>(.cons (NoS.arrT (fun _=>J)) .nil)) J fun b15=>ARun.ghost<|ImpX.drop .p1<|ImpX.here<|ARun.nil ⟨b15,_,J,J⟩
        refine AT.nilN (fun _=>J) fun β=>?_
        generalize β 5 = b13
        generalize β 7 = b15
        clear β
        refine bndE h fun l16 e5 h=>t_append (g := Spell.av) J J J J J J J J (bound_src (.inl .p0) J) e5 (fun _=>.p2) J fun b17=>rA J J<|rN<|ATodo.blk<|tR<|ARun.qv (q_addw J J) J<|rM J J<|rN<|ATodo.stop<|?_
        obtain rfl := Option.some.inj h
        exact hJ1 _ _ J<|ImpX.lq [1,1] ⟨b17,J⟩ J J
      · refine have h := iteF hc h; ATodo.exit J<|have h := outL h hA1; ?_
        unfold rule_Spells_k1 at h
        refine tSR<|rM J J<|bndE h fun v18 e6 h=>t_call0 J (slices_SortFunc_Spell_Spell_c (fun e=>rule_byFrom_c (GI := strongT) e) (lenOk_f e6)) (CoL.refl _) (.cons .p1 .nil) J J<|ARun.ghost<|ImpX.eqs (s := 9) (av' := .sl 4 b7 0 v18.length) J (congrArg (AV.sl 4 b7 0) (lenOk_l e6))<|ImpX.here<|ARun.ghost<|ImpX.eqs (s := 33) (av' := .sl 4 b7 0 v18.length) J (congrArg (AV.sl 4 b7 0) (lenOk_l e6))<|ImpX.here<|rN<|tSR<|rM J J<|rA J J<|rA J J<|rN<|ATodo.ret<|?_
        obtain rfl := Option.some.inj h
        exact ImpX.here ⟨_,.cons (.tmp _ _ J) (.cons (.tmp _ _ J) .nil),_,.cons .p0 .nil,⟨b7,J,J⟩⟩

theorem slices_Equal_Spell_Spell_c [GI : GTab] {p0x0 : List Spell} {p1x0 : List Spell} {r : Bool} (h : slices_Equal_Spell_Spell p0x0 p1x0 = some r) : Pu Tryz.prog 27 [lE7 p0x0,lE7 p1x0] (.bool r) := by
  unfold slices_Equal_Spell_Spell at h
  refine ACall.bodyN Tryz.func27 J Tryz.ntmps27 Tryz.results27 J J ?_
  refine tSR<|rA J J<|rN<|tS<|tSR<|rM J J<|ARun.qv (t_len J) J<|rM J J<|ARun.qv (t_len J) J<|ARun.qv (q_neq J J) J<|rN<|ATodo.cond_d J (fun hc=>?_) (fun hc=>?_)
  · refine have h := iteT hc h; tSR<|rA J J<|rN<|ATodo.ret<|?_
    obtain rfl := Option.some.inj h
    exact ImpX.here ⟨_,.cons (.tmp _ _ J) .nil,J⟩
  · refine have h := iteF hc h; tK<|tS<|tSR<|rM J J<|ARun.qv (t_len J) J<|rM J J<|rN<|ATodo.block<|ATodo.loopI (fun x : Int=>slices_Equal_Spell_Spell_b1 p0x0 p1x0 x) (fun x σ'=>σ' = ⟨26,[(0,lE7 p0x0),(1,lE7 p1x0),(12,I (p0x0.length : Int)),(13,I x)],[]⟩) h ?_ ?_
    · exact ImpX.lq [] J J J
    · intro n2 z1 σ' J1 hmk h hJ1 hA1
      obtain rfl := hmk
      replace h : slices_Equal_Spell_Spell_b1 p0x0 p1x0 n2 = some z1 := h
      unfold slices_Equal_Spell_Spell_b1 at h
      refine tSR<|ARun.qv (q_lss J J) J<|rN<|tS<|ATodo.cond_d J (fun hc=>?_) (fun hc=>?_)
      · refine have h := iteT hc h; tK<|tS<|ATodo.block<|tSR<|rM J J<|rA J J<|rN<|tS<|ATodo.regionM (id := 6) (A := [0,0,3,7,0,0,48,112,255]) 9 mixed J (by kernel_rfl) (by kernel_rfl)<|AM.qv (q_move J) J<|AM.qv (q_move J) J<|bndE h fun v3 e1 h=>AM.qv (t_index J J J e1 J J) J<|AM.qv (q_load_rptr_agg J J J) J<|AM.qv (q_move J) J<|AM.qv (q_move J) J<|bndE h fun v4 e2 h=>AM.qv (t_index J J J e2 J J) J<|AM.qv (q_load_rptr_agg J J J) J<|AM.qv (t_tne (g := Spell.av) (X := v3) (Y := v4) J J J J J) J<|AM.nil<|rN<|ATodo.cond_d J (fun hc=>?_) (fun hc=>?_)
        · refine have h := iteT hc h; tSR<|rA J J<|rN<|ATodo.ret<|have h := outL h hA1; ?_
          obtain rfl := Option.some.inj h
          exact ImpX.here ⟨_,.cons (.tmp _ _ J) .nil,J⟩
        · refine have h := iteF hc h; tK<|ATodo.blk<|tR<|ARun.qv (q_addw J J) J<|rM J J<|rN<|ATodo.stop<|?_
          obtain rfl := Option.some.inj h
          exact hJ1 _ _ J<|ImpX.lq [] J J J
      · refine have h := iteF hc h; ATodo.exit J<|have h := outL h hA1; tSR<|rA J J<|rN<|ATodo.ret<|?_
        obtain rfl := Option.some.inj h
        exact ImpX.here ⟨_,.cons (.tmp _ _ J) .nil,J⟩

theorem L_ruled_c [GI : GTab] {r : Bool} (h : L_ruled = some r) : Pu Tryz.prog 26 [] (.bool r) := by
  unfold L_ruled at h
  refine ACall.bodyN Tryz.func26 J Tryz.ntmps26 Tryz.results26 J J ?_
  refine tSR<|rA J J<|rN<|tSR<|ARun.qv (n_build J J J J J) J<|n_alloc J J J J fun b1=>n_store_ptr J J J J .p0 J J<|rN<|tSR<|ARun.qv (q_load_ptr_all J J .p0 J) J<|n_buildSliceL (xs := ([(⟨([114] : Str),([116] : Str),(1 : Int),(10 : Int),true,(1 : Int),(1 : Int),(0 : Int),(0 : Int),(0 : Int)⟩ : Rule)]).map Rule.av) J J J J J J<|ARun.qv (n_build J J J J J) J<|n_buildSliceL (xs := ([(⟨([100] : Str),([116] : Str),(0 : Int),(1 : Int)⟩ : Sample)]).map Sample.av) J J J J J J<|ARun.qv (n_build J J J J J) J<|bndE h fun v2 e1 h=>t_call1 J (rule_Spells_c e1) (CoL.refl _) .nil (fun _=>J) J fun b3=>rM J J<|rX J J J<|rX J J J<|rA J J<|rA J J<|rN<|tS<|ATodo.cut (fun σ'=>∃ (c4 : Bool),L_ruled_j1 c4 = some r ∧ σ' = ⟨22,[(0,.bool c4)],[]⟩) ?_ ?_
  · refine tR<|rM J J<|ARun.qv (q_eql J J) J<|rM J J<|ARun.guard_dt J J J (fun hc=>?_) (fun hc=>?_)
    · exact have h := iteT hc h; rM J J<|rY J J J<|ARun.qv (n_build J J J J J) J<|rY J J J<|n_buildSliceL (xs := ([(⟨([100] : Str),([114] : Str),(0 : Int),(5 : Int)⟩ : Spell)]).map Spell.av) J J J J J J<|rY J J J<|bndE h fun v5 e2 h=>r_callpB J (slices_Equal_Spell_Spell_c e2) (.cons (CoB.arrT .p0) (.cons (.co (.refl _)) .nil)) J J<|rT J J J<|rA J J<|rN<|ATodo.stop<|ImpX.lq [] ⟨v5,h,J⟩ J J
    · exact have h := iteF hc h; rG J J J J<|rG J J J J<|rG J J J J<|rE J J J<|rA J J<|rN<|ATodo.stop<|ImpX.lq [] ⟨false,h,J⟩ J J
  · rintro σ' ⟨c4, h, rfl⟩
    unfold L_ruled_j1 at h
    refine ATodo.ret<|?_
    obtain rfl := Option.some.inj h
    exact ImpX.here ⟨_,.cons (.tmp _ _ J) .nil,J⟩

theorem Q_windowOf_c [GI : GTab] {p0x0 : Rule} {p1x0 : List Sample} {p2x0 : Str} {p3x0 : Int} {r : (List Int)} (h : Q_windowOf p0x0 p1x0 p2x0 p3x0 = some r) : ACall Tryz.prog 104 [Rule.av p0x0,lE3 p1x0,.str p2x0,I p3x0] [] (T1 (fun d_0=>[(d_0,aE0 r)]) (fun d_0=>.sl 1 d_0 0 r.length)) := by
  unfold Q_windowOf at h
  refine ACall.lessH ?_
  refine ACall.bodyN Tryz.func104 J Tryz.ntmps104 Tryz.results104 J J ?_
  refine tSR<|n_box J J J J fun b1=>rA J J<|rN<|tSR<|rA J J<|rN<|tS<|tSR<|rM J J<|ARun.qv (t_len J) J<|rM J J<|rN<|ATodo.block<|ATodo.loopI (fun x : (List Int) × Int=>Q_windowOf_b1 p0x0 p1x0 p2x0 p3x0 x.1 x.2) (fun x σ'=>∃ (b5 : Bk),σ' = ⟨51,[(2,.str p2x0),(3,I p3x0),(4,.ptr b1 0),(9,.sl 1 b5 0 x.1.length),(12,lE3 p1x0),(13,I (p1x0.length : Int)),(14,I x.2)],[(b1,.cells (cE1 p0x0)),(b5,aE0 x.1)]⟩) h ?_ ?_
  · exact ImpX.arr (s := 9) 1 J fun b8=>ImpX.lq [1,0] ⟨b8,J⟩ J J
  · intro x z1 σ' J1 hmk h hJ1 hA1
    obtain ⟨l6, n7⟩ := x
    obtain ⟨b5, rfl⟩ := hmk
    replace h : Q_windowOf_b1 p0x0 p1x0 p2x0 p3x0 l6 n7 = some z1 := h
    unfold Q_windowOf_b1 at h
    refine tSR<|ARun.qv (q_lss J J) J<|rN<|tS<|ATodo.cond_d J (fun hc=>?_) (fun hc=>?_)
    · refine have h := iteT hc h; tK<|tS<|ATodo.block<|tSR<|bndE h fun v9 e1 h=>ARun.qv (t_index J J J e1 J J) J<|ARun.qv (q_load_rptr_agg J J J) J<|n_alloc J J J J fun b10=>n_store_ptr J J J J .p0 J J<|rN<|tS<|ATodo.cut (fun σ'=>∃ (c11 : Bool),Q_windowOf_j1 l6 n7 v9 c11 = some z1 ∧ σ' = ⟨51,[(2,.str p2x0),(3,I p3x0),(4,.ptr b1 0),(9,.sl 1 b5 0 l6.length),(11,.ptr b10 0),(12,lE3 p1x0),(13,I (p1x0.length : Int)),(14,I n7),(43,.bool c11)],[(b1,.cells (cE1 p0x0)),(b5,aE0 l6),(b10,.cells (cE0 v9))]⟩) ?_ ?_
      · refine tR<|rF J J J<|rL J J .p0 J J<|rM J J<|ARun.qv (q_seq J J) J<|rM J J<|ARun.guard_dt J J J (fun hc=>?_) (fun hc=>?_)
        · rw [andTd hc] at h
          refine rF J J J<|rY J J J<|rL J J .p0 J J<|rY J J J<|rF J J J<|rY J J J<|rL J J .p1 J J<|rY J J J<|ARun.qv (q_seq J J) J<|rT J J J<|rM J J<|ARun.guard_dt J J J (fun hc=>?_) (fun hc=>?_)
          · rw [andTd hc] at h
            refine rF J J J<|rY J J J<|rL J J .p0 J J<|rY J J J<|rM J J<|rY J J J<|rF J J J<|rY J J J<|rL J J .p1 J J<|rY J J J<|ARun.qv (q_subw J J) J<|rY J J J<|ARun.qv (q_gtr J J) J<|rT J J J<|rM J J<|ARun.guard_dt J J J (fun hc=>?_) (fun hc=>?_)
            · rw [andTd hc] at h
              exact rF J J J<|rY J J J<|rL J J .p0 J J<|rY J J J<|rM J J<|rY J J J<|ARun.qv (q_leq J J) J<|rT J J J<|rN<|ATodo.stop<|ImpX.lq [1,1,0] ⟨decide (v9.At ≤ p3x0),h,J⟩ J J
            · rw [andFd hc] at h
              exact rG J J J J<|rG J J J J<|rG J J J J<|rE J J J<|rN<|ATodo.stop<|ImpX.lq [1,1,0] ⟨false,h,J⟩ J J
          · rw [andFd hc] at h
            exact rG J J J J<|rG J J J J<|rG J J J J<|rG J J J J<|rG J J J J<|rG J J J J<|rE J J J<|rM J J<|rG J J J J<|rG J J J J<|rG J J J J<|rG J J J J<|rE J J J<|rN<|ATodo.stop<|ImpX.lq [1,1,0] ⟨false,h,J⟩ J J
        · rw [andFd hc] at h
          exact rG J J J J<|rG J J J J<|rG J J J J<|rG J J J J<|rE J J J<|rM J J<|rG J J J J<|rG J J J J<|rG J J J J<|rG J J J J<|rG J J J J<|rG J J J J<|rG J J J J<|rE J J J<|rM J J<|rG J J J J<|rG J J J J<|rG J J J J<|rG J J J J<|rE J J J<|rN<|ATodo.stop<|ImpX.lq [1,1,0] ⟨false,h,J⟩ J J
      · rintro σ' ⟨c11, h, rfl⟩
        unfold Q_windowOf_j1 at h
        refine ATodo.cut (fun σ'=>∃ (b12 : Bk) (l13 : List Int),Q_windowOf_j2 n7 l13 = some z1 ∧ σ' = ⟨51,[(2,.str p2x0),(3,I p3x0),(4,.ptr b1 0),(9,.sl 1 b12 0 l13.length),(12,lE3 p1x0),(13,I (p1x0.length : Int)),(14,I n7)],[(b1,.cells (cE1 p0x0)),(b12,aE0 l13)]⟩) ?_ ?_
        · refine ATodo.cond J (fun hc=>?_) (fun hc=>?_)
          · exact have h := iteT hc h; tR<|rM J J<|rF J J J<|rL J J .p2 J J<|n_buildSliceL (xs := ([v9.Value] : List Int).map I) J J J J J J<|bndE h fun l14 e2 h=>t_append (g := I) J J J J J J J J (.list _) e2 (fun _=>.p1) J fun b15=>rA J J<|rN<|ATodo.stop<|ImpX.lq [0,0] ⟨b15,l14,h,J⟩ J J
          · exact have h := iteFb hc h; tK<|ATodo.stop<|ImpX.lq [0,0] ⟨b5,l6,h,J⟩ J J
        · rintro σ' ⟨b12, l13, h, rfl⟩
          unfold Q_windowOf_j2 at h
          refine ATodo.blk<|tR<|ARun.qv (q_addw J J) J<|rM J J<|rN<|ATodo.stop<|?_
          obtain rfl := Option.some.inj h
          exact hJ1 _ _ J<|ImpX.lq [0,0] ⟨b12,J⟩ J J
    · refine have h := iteF hc h; ATodo.exit J<|have h := outL h hA1; tSR<|rM J J<|rA J J<|rN<|ATodo.ret<|?_
      obtain rfl := Option.some.inj h
      exact ImpX.here ⟨_,.cons (.tmp _ _ J) .nil,_,.cons .p1 .nil,⟨b5,J,J⟩⟩

theorem slices_Min_int_int_c [GI : GTab] {p0x0 : List Int} {r : Int} (h : slices_Min_int_int p0x0 = some r) : Pu Tryz.prog 105 [lE0 p0x0] (I r) := by
  unfold slices_Min_int_int at h
  refine ACall.bodyN Tryz.func105 J Tryz.ntmps105 Tryz.results105 J J ?_
  refine tSR<|rA J J<|rN<|tS<|tSR<|rM J J<|ARun.qv (t_len J) J<|ARun.qv (q_lss J J) J<|rN<|ATodo.cond_d J (fun hc=>?_) (fun hc=>?_)
  · refine have h := iteT hc h; tR<|?_
    cases h
  · refine have h := iteF hc h; tK<|tSR<|rM J J<|bndE h fun v1 e1 h=>ARun.qv (t_index J J J e1 J J) J<|ARun.qv (q_load_rptr J J J) J<|rA J J<|rN<|tS<|tSR<|rA J J<|rN<|ATodo.block<|ATodo.loopI (fun x : Int × Int=>slices_Min_int_int_b1 p0x0 x.1 x.2) (fun x σ'=>σ' = ⟨25,[(0,lE0 p0x0),(3,I x.1),(4,I x.2)],[]⟩) h ?_ ?_
    · exact ImpX.lq [] J J J
    · intro x z1 σ' J1 hmk h hJ1 hA1
      obtain ⟨n4, n5⟩ := x
      obtain rfl := hmk
      replace h : slices_Min_int_int_b1 p0x0 n4 n5 = some z1 := h
      unfold slices_Min_int_int_b1 at h
      refine tS<|tSR<|rM J J<|rM J J<|ARun.qv (t_len J) J<|ARun.qv (q_lss J J) J<|rN<|ATodo.cond_d J (fun hc=>?_) (fun hc=>?_)
      · refine have h := iteT hc h; tK<|tS<|ATodo.block<|tR<|rM J J<|rM J J<|rM J J<|bndE h fun v6 e2 h=>ARun.qv (t_index J J J e2 J J) J<|ARun.qv (q_load_rptr J J J) J<|ARun.qv (q_min J J) J<|rA J J<|rN<|ATodo.blk<|tR<|rM J J<|ARun.qv (q_addw J J) J<|rA J J<|rN<|ATodo.stop<|?_
        obtain rfl := Option.some.inj h
        exact hJ1 _ _ J<|ImpX.lq [] J J J
      · refine have h := iteF hc h; ATodo.exit J<|have h := outL h hA1; tSR<|rM J J<|rA J J<|rN<|ATodo.ret<|?_
        obtain rfl := Option.some.inj h
        exact ImpX.here ⟨_,.cons (.tmp _ _ J) .nil,J⟩

theorem slices_Max_int_int_c [GI : GTab] {p0x0 : List Int} {r : Int} (h : slices_Max_int_int p0x0 = some r) : Pu Tryz.prog 106 [lE0 p0x0] (I r) := by
  unfold slices_Max_int_int at h
  refine ACall.bodyN Tryz.func106 J Tryz.ntmps106 Tryz.results106 J J ?_
  refine tSR<|rA J J<|rN<|tS<|tSR<|rM J J<|ARun.qv (t_len J) J<|ARun.qv (q_lss J J) J<|rN<|ATodo.cond_d J (fun hc=>?_) (fun hc=>?_)
  · refine have h := iteT hc h; tR<|?_
    cases h
  · refine have h := iteF hc h; tK<|tSR<|rM J J<|bndE h fun v1 e1 h=>ARun.qv (t_index J J J e1 J J) J<|ARun.qv (q_load_rptr J J J) J<|rA J J<|rN<|tS<|tSR<|rA J J<|rN<|ATodo.block<|ATodo.loopI (fun x : Int × Int=>slices_Max_int_int_b1 p0x0 x.1 x.2) (fun x σ'=>σ' = ⟨25,[(0,lE0 p0x0),(3,I x.1),(4,I x.2)],[]⟩) h ?_ ?_
    · exact ImpX.lq [] J J J
    · intro x z1 σ' J1 hmk h hJ1 hA1
      obtain ⟨n4, n5⟩ := x
      obtain rfl := hmk
      replace h : slices_Max_int_int_b1 p0x0 n4 n5 = some z1 := h
      unfold slices_Max_int_int_b1 at h
      refine tS<|tSR<|rM J J<|rM J J<|ARun.qv (t_len J) J<|ARun.qv (q_lss J J) J<|rN<|ATodo.cond_d J (fun hc=>?_) (fun hc=>?_)
      · refine have h := iteT hc h; tK<|tS<|ATodo.block<|tR<|rM J J<|rM J J<|rM J J<|bndE h fun v6 e2 h=>ARun.qv (t_index J J J e2 J J) J<|ARun.qv (q_load_rptr J J J) J<|ARun.qv (q_max J J) J<|rA J J<|rN<|ATodo.blk<|tR<|rM J J<|ARun.qv (q_addw J J) J<|rA J J<|rN<|ATodo.stop<|?_
        obtain rfl := Option.some.inj h
        exact hJ1 _ _ J<|ImpX.lq [] J J J
      · refine have h := iteF hc h; ATodo.exit J<|have h := outL h hA1; tSR<|rM J J<|rA J J<|rN<|ATodo.ret<|?_
        obtain rfl := Option.some.inj h
        exact ImpX.here ⟨_,.cons (.tmp _ _ J) .nil,J⟩

theorem Q_lowest_c [GI : GTab] {p0x0 : Int} {p1x0 : Int} {r : Fraction} (h : Q_lowest p0x0 p1x0 = some r) : Pu Tryz.prog 107 [I p0x0,I p1x0] (Fraction.av r) := by
  unfold Q_lowest at h
  refine ACall.bodyN Tryz.func107 J Tryz.ntmps107 Tryz.results107 J J ?_
  refine tSR<|n_alloc J J J J fun b1=>rN<|tSR<|rM J J<|rM J J<|ARun.qv (t_negw J) J<|ARun.qv (q_max J J) J<|rM J J<|rA J J<|rA J J<|rN<|tS<|ATodo.block<|ATodo.loopI (fun x : Int × Int=>Q_lowest_b1 p0x0 p1x0 x.1 x.2) (fun x σ'=>σ' = ⟨25,[(0,I p0x0),(1,I p1x0),(4,.ptr b1 0),(5,I x.1),(6,I x.2)],[(b1,.cells [I (0 : Int),I (0 : Int)])]⟩) h ?_ ?_
  · exact ImpX.lq [0] J J J
  · intro x z1 σ' J1 hmk h hJ1 hA1
    obtain ⟨n4, n5⟩ := x
    obtain rfl := hmk
    replace h : Q_lowest_b1 p0x0 p1x0 n4 n5 = some z1 := h
    unfold Q_lowest_b1 at h
    refine tS<|tSR<|rM J J<|ARun.qv (q_gtr J J) J<|rN<|ATodo.cond_d J (fun hc=>?_) (fun hc=>?_)
    · refine have h := iteT hc h; tK<|ATodo.block<|ATodo.regionM (id := 3) (A := [0,0,0,6,3,31]) 6 mixed J (by kernel_rfl) (by kernel_rfl)<|AM.qv (q_move J) J<|AM.qv (q_move J) J<|AM.qv (q_move J) J<|bndE h fun n6 e1 h=>AM.qv (t_remS J J e1) J<|AM.qv (q_assign J) J<|AM.qv (q_assign J) J<|AM.nil<|rN<|ATodo.blk<|ATodo.stop<|?_
      obtain rfl := Option.some.inj h
      exact hJ1 _ _ J<|ImpX.lq [0] J J J
    · refine have h := iteF hc h; ATodo.exit J<|have h := outL h hA1; ?_
      unfold Q_lowest_k1 at h
      refine tS<|ATodo.regionM (id := 4) (A := [0,0,3,0,0,24,63,127]) 7 mixed J (by kernel_rfl) (by kernel_rfl)<|AM.qv (q_move J) J<|AM.qv (q_move J) J<|bndE h fun n7 e2 h=>AM.qv (t_quoS J J e2) J<|AM.qv (q_move J) J<|AM.qv (q_move J) J<|bndE h fun n8 e3 h=>AM.qv (t_quoS J J e3) J<|AM.qv (n_build J J J J J) J<|AM.nil<|n_store_ptr J J J J .p0 J J<|rN<|ATodo.ret<|?_
      obtain rfl := Option.some.inj h
      exact ImpX.here ⟨_,.cons (.all _ _ _ _ _ _ J .p0 TUnder.h TInfo.h J J) .nil,J⟩

theorem Q_ValueOf_c [GI : GTab] {p0x0 : Rule} {p1x0 : List Sample} {p2x0 : Str} {p3x0 : Int} {r : Fraction × Bool} (h : Q_ValueOf p0x0 p1x0 p2x0 p3x0 = some r) : Pu Tryz.prog 43 [Rule.av p0x0,lE3 p1x0,.str p2x0,I p3x0] (.tup [Fraction.av r.1,.bool r.2]) := by
  unfold Q_ValueOf at h
  refine ACall.bodyN Tryz.func43 J Tryz.ntmps43 Tryz.results43 J J ?_
  refine tSR<|n_box J J J J fun b1=>n_alloc J J J J fun b2=>rA J J<|rN<|tSR<|ARun.qv (q_load_ptr_all J J .p1 J) J<|rM J J<|rM J J<|rM J J<|bndE h fun v3 e1 h=>t_call1 J (Q_windowOf_c e1) (CoL.refl _) .nil (fun _=>J) J fun b4=>rA J J<|rN<|tSR<|rM J J<|ARun.qv (t_len_sl J) J<|rA J J<|rN<|tS<|tSR<|rF J J J<|rL J J .p2 J J<|ARun.qv (q_eql J J) J<|rN<|ATodo.cond_d J (fun hc=>?_) (fun hc=>?_)
  · refine have h := iteT hc h; tSR<|rM J J<|ARun.qv (n_build J J J J J) J<|n_store_ptr J J J J .p1 J J<|rA J J<|rN<|ATodo.ret<|?_
    obtain rfl := Option.some.inj h
    exact ImpX.here ⟨_,.cons (.all _ _ _ _ _ _ J .p1 TUnder.h TInfo.h J J) (.cons (.tmp _ _ J) .nil),J⟩
  · refine have h := iteF hc h; tK<|tS<|tSR<|rM J J<|ARun.qv (q_eql J J) J<|rN<|ATodo.cond_d J (fun hc=>?_) (fun hc=>?_)
    · refine have h := iteT hc h; tSR<|ARun.qv (n_build J J J J J) J<|n_store_ptr J J J J .p1 J J<|rA J J<|rN<|ATodo.ret<|?_
      obtain rfl := Option.some.inj h
      exact ImpX.here ⟨_,.cons (.all _ _ _ _ _ _ J .p1 TUnder.h TInfo.h J J) (.cons (.tmp _ _ J) .nil),J⟩
    · refine have h := iteF hc h; tK<|tS<|tSR<|rF J J J<|rL J J .p2 J J<|rN<|ATodo.block<|tSR<|ARun.qv (q_eql J J) J<|rA J J<|rN<|ATodo.cond_d J (fun hc=>?_) (fun hc=>?_)
      · refine have h := iteT hc h; tSR<|rM J J<|bndE h fun v5 e2 h=>r_callpB J (slices_Min_int_int_c e2) (.cons (CoB.arrT .p0) .nil) J J<|ARun.qv (n_build J J J J J) J<|n_store_ptr J J J J .p1 J J<|rA J J<|rN<|ATodo.ret<|?_
        obtain rfl := Option.some.inj h
        exact ImpX.here ⟨_,.cons (.all _ _ _ _ _ _ J .p1 TUnder.h TInfo.h J J) (.cons (.tmp _ _ J) .nil),J⟩
      · refine have h := iteF hc h; tSR<|ARun.qv (q_eql J J) J<|rA J J<|rN<|ATodo.cond_d J (fun hc=>?_) (fun hc=>?_)
        · refine have h := iteT hc h; tSR<|rM J J<|bndE h fun v6 e3 h=>r_callpB J (slices_Max_int_int_c e3) (.cons (CoB.arrT .p0) .nil) J J<|ARun.qv (n_build J J J J J) J<|n_store_ptr J J J J .p1 J J<|rA J J<|rN<|ATodo.ret<|?_
          obtain rfl := Option.some.inj h
          exact ImpX.here ⟨_,.cons (.all _ _ _ _ _ _ J .p1 TUnder.h TInfo.h J J) (.cons (.tmp _ _ J) .nil),J⟩
        · refine have h := iteF hc h; tSR<|ARun.qv (q_eql J J) J<|rA J J<|rN<|ATodo.cond_d J (fun hc=>?_) (fun hc=>?_)
          · refine have h := iteT hc h; tSR<|rA J J<|rN<|tS<|tSR<|rM J J<|ARun.qv (t_len_sl J) J<|rM J J<|rN<|ATodo.block<|ATodo.loopI (fun x : Int × Int=>Q_ValueOf_b1 v3 x.1 x.2) (fun x σ'=>σ' = ⟨75,[(8,.ptr b2 0),(11,I (v3.length : Int)),(12,I x.1),(44,.sl 1 b4 0 v3.length),(45,I (v3.length : Int)),(46,I x.2)],[(b2,.cells [I (0 : Int),I (0 : Int)]),(b4,aE0 v3)]⟩) h ?_ ?_
            · exact ImpX.lq [1,0] J J J
            · intro x z1 σ' J1 hmk h hJ1 hA1
              obtain ⟨n9, n10⟩ := x
              obtain rfl := hmk
              replace h : Q_ValueOf_b1 v3 n9 n10 = some z1 := h
              unfold Q_ValueOf_b1 at h
              refine tSR<|ARun.qv (q_lss J J) J<|rN<|tS<|ATodo.cond_d J (fun hc=>?_) (fun hc=>?_)
              · refine have h := iteT hc h; tK<|tS<|ATodo.block<|tSR<|bndE h fun v11 e4 h=>ARun.qv (t_index_sl J J J e4) J<|ARun.qv (t_load_aptr (g := I) J J (.inl .p1) e4 J) J<|rA J J<|rN<|tR<|rM J J<|rM J J<|ARun.qv (q_addw J J) J<|rA J J<|rN<|ATodo.blk<|tR<|ARun.qv (q_addw J J) J<|rM J J<|rN<|ATodo.stop<|?_
                obtain rfl := Option.some.inj h
                exact hJ1 _ _ J<|ImpX.lq [0,0] J J J
              · refine have h := iteF hc h; ATodo.exit J<|have h := outL h hA1; ?_
                unfold Q_ValueOf_k1 at h
                refine tSR<|rM J J<|rM J J<|bndE h fun v12 e5 h=>r_callp J (Q_lowest_c e5) (CoL.refl _) J<|n_store_ptr J J J J .p0 J J<|rA J J<|rN<|ATodo.ret<|?_
                obtain rfl := Option.some.inj h
                exact ImpX.here ⟨_,.cons (.all _ _ _ _ _ _ J .p0 TUnder.h TInfo.h J J) (.cons (.tmp _ _ J) .nil),J⟩
          · refine have h := iteF hc h; tSR<|ARun.qv (q_eql J J) J<|rA J J<|rN<|ATodo.cond_d J (fun hc=>?_) (fun hc=>?_)
            · refine have h := iteT hc h; tS<|ATodo.regionM (id := 21) (A := [0,0,2,7,15,0,32,96,255,511,1023,2047]) 10 mixed J (by kernel_rfl) (by kernel_rfl)<|AM.qv (q_move J) J<|AM.qv (q_move J) J<|AM.qv (q_subw J J) J<|bndE h fun v13 e6 h=>AM.qv (t_index_sl J J J e6) J<|AM.qv (t_load_aptr (g := I) J J (.inl .p0) e6 J) J<|AM.qv (q_move J) J<|bndE h fun v14 e7 h=>AM.qv (t_index_sl J J J e7) J<|AM.qv (t_load_aptr (g := I) J J (.inl .p0) e7 J) J<|AM.qv (q_subw J J) J<|AM.qv (n_build J J J J J) J<|AM.nil<|n_store_ptr J J J J .p1 J J<|rA J J<|rN<|ATodo.ret<|?_
              obtain rfl := Option.some.inj h
              exact ImpX.here ⟨_,.cons (.all _ _ _ _ _ _ J .p1 TUnder.h TInfo.h J J) (.cons (.tmp _ _ J) .nil),J⟩
            · refine have h := iteF hc h; tK<|ATodo.blk<|tSR<|rM J J<|rM J J<|ARun.qv (q_subw J J) J<|bndE h fun v15 e8 h=>ARun.qv (t_index_sl J J J e8) J<|ARun.qv (t_load_aptr (g := I) J J (.inl .p0) e8 J) J<|ARun.qv (n_build J J J J J) J<|n_store_ptr J J J J .p1 J J<|rA J J<|rN<|ATodo.ret<|?_
              obtain rfl := Option.some.inj h
              exact ImpX.here ⟨_,.cons (.all _ _ _ _ _ _ J .p1 TUnder.h TInfo.h J J) (.cons (.tmp _ _ J) .nil),J⟩

theorem Q_StateOf_c [GI : GTab] {p0x0 : Rule} {p1x0 : List Sample} {p2x0 : Str} {p3x0 : Int} {r : Int} (h : Q_StateOf p0x0 p1x0 p2x0 p3x0 = some r) : Pu Tryz.prog 44 [Rule.av p0x0,lE3 p1x0,.str p2x0,I p3x0] (I r) := by
  unfold Q_StateOf at h
  refine ACall.bodyN Tryz.func44 J Tryz.ntmps44 Tryz.results44 J J ?_
  refine tSR<|n_box J J J J fun b1=>rA J J<|rN<|tSR<|ARun.qv (q_load_ptr_all J J .p0 J) J<|rM J J<|rM J J<|rM J J<|bndE h fun v2 e1 h=>r_callp J (Q_ValueOf_c e1) (CoL.refl _) J<|rM J J<|rX J J J<|rX J J J<|n_alloc J J J J fun b3=>n_store_ptr J J J J .p0 J J<|rA J J<|rN<|tS<|tSR<|rM J J<|ARun.qv (q_not J) J<|rN<|ATodo.cond J (fun hc=>?_) (fun hc=>?_)
  · refine have h := iteT hc h; tSR<|n_buildSliceL (xs := ([(0 : Int),(2 : Int),(1 : Int)]).map I) J J J J J J<|rF J J J<|rL J J .p1 J J<|bndE h fun v4 e2 h=>ARun.qv (t_index J J J e2 J J) J<|ARun.qv (q_load_rptr J J J) J<|rA J J<|rN<|ATodo.ret<|?_
    obtain rfl := Option.some.inj h
    exact ImpX.here ⟨_,.cons (.tmp _ _ J) .nil,J⟩
  · refine have h := iteFb hc h; tK<|tS<|ATodo.regionM (id := 4) (A := [0,1,0,4,0,16,60,127,0,256,0,1024,0,4096,15360,32767,65535,131071]) 18 mixed J (by kernel_rfl) (by kernel_rfl)<|AM.qv (n_field_ptr J J) J<|AM.qv (q_load_ptr J J .p0 J) J<|AM.qv (n_field_ptr J J) J<|AM.qv (q_load_ptr J J .p1 J) J<|AM.qv (n_field_ptr J J) J<|AM.qv (q_load_ptr J J .p0 J) J<|AM.qv (q_mulw J J) J<|AM.callp J (cmp_Compare_int_c J) (CoL.refl _) J<|AM.qv (n_field_ptr J J) J<|AM.qv (q_load_ptr J J .p0 J) J<|AM.qv (n_field_ptr J J) J<|AM.qv (q_load_ptr J J .p1 J) J<|AM.qv (n_field_ptr J J) J<|AM.qv (q_load_ptr J J .p0 J) J<|AM.qv (q_mulw J J) J<|AM.callp J (cmp_Compare_int_c J) (CoL.refl _) J<|AM.qv (q_assign J) J<|AM.qv (q_assign J) J<|AM.nil<|rN<|tS<|tSR<|rF J J J<|rL J J .p1 J J<|ARun.qv (q_not J) J<|rN<|ATodo.cut (fun σ'=>∃ (n5 : Int) (n6 : Int),Q_StateOf_j1 n5 n6 = some r ∧ σ' = ⟨57,[(11,I n5),(12,I n6)],[]⟩) ?_ ?_
    · refine ATodo.cond J (fun hc=>?_) (fun hc=>?_)
      · exact have h := iteT hc h; tR<|rM J J<|ARun.qv (t_negw J) J<|rM J J<|ARun.qv (t_negw J) J<|rA J J<|rA J J<|rN<|ATodo.stop<|ImpX.lq [] ⟨w64 (-(cmp_Compare_int v2.1.Num (w64 (p0x0.On * v2.1.Den)))),w64 (-(cmp_Compare_int v2.1.Num (w64 (p0x0.Off * v2.1.Den)))),h,J⟩ J J
      · exact have h := iteFb hc h; tK<|ATodo.stop<|ImpX.lq [] ⟨(cmp_Compare_int v2.1.Num (w64 (p0x0.On * v2.1.Den))),(cmp_Compare_int v2.1.Num (w64 (p0x0.Off * v2.1.Den))),h,J⟩ J J
    · rintro σ' ⟨n5, n6, h, rfl⟩
      unfold Q_StateOf_j1 at h
      refine tS<|ATodo.block<|tSR<|rM J J<|ARun.qv (q_geq J J) J<|rA J J<|rN<|ATodo.cond_d J (fun hc=>?_) (fun hc=>?_)
      · refine have h := iteT hc h; tSR<|rA J J<|rN<|ATodo.ret<|?_
        obtain rfl := Option.some.inj h
        exact ImpX.here ⟨_,.cons (.tmp _ _ J) .nil,J⟩
      · refine have h := iteF hc h; tSR<|rM J J<|ARun.qv (q_lss J J) J<|rA J J<|rN<|ATodo.cond_d J (fun hc=>?_) (fun hc=>?_)
        · refine have h := iteT hc h; tSR<|rA J J<|rN<|ATodo.ret<|?_
          obtain rfl := Option.some.inj h
          exact ImpX.here ⟨_,.cons (.tmp _ _ J) .nil,J⟩
        · refine have h := iteF hc h; tK<|ATodo.blk<|tSR<|rA J J<|rN<|ATodo.ret<|?_
          obtain rfl := Option.some.inj h
          exact ImpX.here ⟨_,.cons (.tmp _ _ J) .nil,J⟩

theorem L_RulesLook_c {p0x0 : List Int} {r : Bool} (h : L_RulesLook p0x0 = some r) : Pu Tryz.prog 5 [lE0 p0x0] (.bool r) := by
  unfold L_RulesLook at h
  refine ACall.bodyN Tryz.func5 J Tryz.ntmps5 Tryz.results5 J J ?_
  refine tSR<|rA J J<|rN<|tSR<|rM J J<|ARun.qv (n_build J J J J J) J<|n_box J J J J fun b1=>rA J J<|rN<|tSR<|rM J J<|bndE h fun v2 e1 h=>t_call1 J (Stream_Rules_c e1) (CoL.refl _) (.cons .p0 .nil) (fun _=>J) J fun b3=>rM J J<|bndE h fun v4 e2 h=>t_call0 J (L_oneRule_c e2) (CoL.refl _) (.cons .p0 .nil) J J<|rM J J<|rM J J<|bndE h fun v5 e3 h=>t_call0 J (Stream_Range_c e3) (CoL.refl _) (.cons .p0 .nil) J J<|bndE h fun v6 e4 h=>t_call1 J (Stream_Readings_c e4) (CoL.refl _) (.cons .p0 .nil) (fun _=>J) J fun b7=>rM J J<|n_buildSliceL (xs := ([([100,97] : Str),([100,97] : Str),([100,98] : Str),([65] : Str)]).map AV.str) J J J J J J<|bndE h fun v8 e5 h=>t_call0 J (Stream_Some_c e5) (CoL.refl _) (.cons .p0 .nil) J J<|rM J J<|bndE h fun v9 e6 h=>t_call0 J (Stream_Time_c e6) (CoL.refl _) (.cons .p0 .nil) J J<|n_alloc J J J J fun b10=>rA J J<|n_store_ptr J J J J .p0 J J<|rA J J<|rA J J<|rA J J<|rN<|tSR<|rM J J<|bndE h fun v11 e7 h=>t_callL1 J (slices_Clone_Sample_Sample_c e7) .nil (.cons (CoB.arrT .p2) .nil) (fun _=>J) (fun _=>J) (fun _=>(.cons (NoS.arrT (fun _=>J)) .nil)) J fun b12=>rA J J<|rN<|tS<|tSR<|rM J J<|bndE h fun v13 e8 h=>t_call0 J (Stream_Next_c e8) (CoL.refl _) (.cons .p2 .nil) J J<|rN<|ATodo.block<|tSR<|ARun.qv (q_eql J J) J<|rA J J<|rN<|ATodo.cut (fun σ'=>∃ (b14 : Bk) (l15 : List Sample),L_RulesLook_j1 v2 v4 v6 v8 v9 l15 = some r ∧ σ' = ⟨185,[(4,.sl 10 b3 0 v2.1.length),(5,.ptr b10 0),(6,.sl 4 b7 0 v6.1.length),(7,.str v8.1),(8,I v9.1),(9,.sl 4 b14 0 l15.length)],[(b3,aE2 v2.1),(b10,.cells (cE1 v4.1)),(b7,aE3 v6.1),(b14,aE3 l15)]⟩) ?_ ?_
  · refine ATodo.cond_d J (fun hc=>?_) (fun hc=>?_)
    · exact have h := iteT hc h; tR<|rM J J<|rM J J<|bndE h fun v16 e9 h=>t_call0 J (Stream_Range_c e9) (CoL.refl _) (.cons .p0 .nil) J J<|bndE h fun v17 e10 h=>t_call1 J (Stream_Readings_c e10) (CoL.refl _) (.cons .p0 .nil) (fun _=>J) J fun b18=>rA J J<|rN<|ATodo.stop<|ImpX.lq [5,3,3,1] ⟨b18,v17.1,h,J⟩ J J
    · refine have h := iteF hc h; tSR<|ARun.qv (q_eql J J) J<|rA J J<|rN<|ATodo.cut (fun σ'=>∃ (l19 : List Sample),L_RulesLook_j2 v2 v4 v6 v8 v9 l19 = some r ∧ σ' = ⟨185,[(4,.sl 10 b3 0 v2.1.length),(5,.ptr b10 0),(6,.sl 4 b7 0 v6.1.length),(7,.str v8.1),(8,I v9.1),(9,.sl 4 b12 0 l19.length)],[(b3,aE2 v2.1),(b10,.cells (cE1 v4.1)),(b7,aE3 v6.1),(b12,aE3 l19)]⟩) ?_ ?_
      · refine ATodo.cond_d J (fun hc=>?_) (fun hc=>?_)
        · refine have h := iteT hc h; tSR<|rM J J<|ARun.qv (t_len_sl J) J<|ARun.qv (q_gtr J J) J<|rN<|ATodo.cut (fun σ'=>∃ (l20 : List Sample),L_RulesLook_j3 v2 v4 v6 v8 v9 l20 = some r ∧ σ' = ⟨185,[(4,.sl 10 b3 0 v2.1.length),(5,.ptr b10 0),(6,.sl 4 b7 0 v6.1.length),(7,.str v8.1),(8,I v9.1),(9,.sl 4 b12 0 l20.length)],[(b3,aE2 v2.1),(b10,.cells (cE1 v4.1)),(b7,aE3 v6.1),(b12,aE3 l20)]⟩) ?_ ?_
          · refine ATodo.cond_d J (fun hc=>?_) (fun hc=>?_)
            · exact have h := iteT hc h; tR<|rM J J<|bndE h fun v21 e11 h=>ARun.qv (t_index_sl J J J e11) J<|ARun.qv (t_field_aptr J J) J<|ARun.qv (t_load_aptr (g := Sample.av) J J (.inl .p1) e11 J) J<|ARun.qv (q_addw J J) J<|bndE h fun v22 e12 h=>ARun.qv (t_index_sl J J J e12) J<|ARun.qv (t_field_aptr J J) J<|t_store_aptr1 (g := Sample.av) (el' := (⟨v22.Device,v22.Metric,v22.At,w64 (v21.Value + (1 : Int))⟩ : Sample)) J J J J e12 J .p1 J<|ARun.ghost<|ImpX.eqs (s := 9) (av' := .sl 4 b12 0 (v11.set (0 : Int).toNat (⟨v22.Device,v22.Metric,v22.At,w64 (v21.Value + (1 : Int))⟩ : Sample)).length) J (by rw [List.length_set])<|ImpX.here<|ARun.ghost<|ImpX.eqs (s := 39) (av' := .sl 4 b12 0 (v11.set (0 : Int).toNat (⟨v22.Device,v22.Metric,v22.At,w64 (v21.Value + (1 : Int))⟩ : Sample)).length) J (by rw [List.length_set])<|ImpX.here<|ARun.ghost<|ImpX.eqs (s := 50) (av' := .sl 4 b12 0 (v11.set (0 : Int).toNat (⟨v22.Device,v22.Metric,v22.At,w64 (v21.Value + (1 : Int))⟩ : Sample)).length) J (by rw [List.length_set])<|ImpX.here<|ARun.ghost<|ImpX.eqs (s := 53) (av' := .sl 4 b12 0 (v11.set (0 : Int).toNat (⟨v22.Device,v22.Metric,v22.At,w64 (v21.Value + (1 : Int))⟩ : Sample)).length) J (by rw [List.length_set])<|ImpX.here<|rN<|ATodo.stop<|ImpX.lq [4,2,2,1] ⟨v11.set (0 : Int).toNat (⟨v22.Device,v22.Metric,v22.At,w64 (v21.Value + (1 : Int))⟩ : Sample),h,J⟩ J J
            · exact have h := iteF hc h; tK<|ATodo.stop<|ImpX.lq [4,2,2,1] ⟨v11,h,J⟩ J J
          · rintro σ' ⟨l20, h, rfl⟩
            unfold L_RulesLook_j3 at h
            exact ATodo.stop<|ImpX.lq [0,0,0,0] ⟨l20,h,J⟩ J J
        · exact have h := iteF hc h; tK<|ATodo.stop<|ImpX.lq [4,2,2,1] ⟨v11,h,J⟩ J J
      · rintro σ' ⟨l19, h, rfl⟩
        unfold L_RulesLook_j2 at h
        exact ATodo.stop<|ImpX.lq [0,0,0,0] ⟨b12,l19,h,J⟩ J J
  · rintro σ' ⟨b14, l15, h, rfl⟩
    unfold L_RulesLook_j1 at h
    refine ATodo.blk<|tSR<|rM J J<|rM J J<|bndE h fun v23 e13 h=>t_callL1 J (rule_Merge_c e13) .nil (.cons (CoB.arrT .p2) (.cons (CoB.arrT .p3) .nil)) (fun _=>J) (fun _=>J) (fun _=>(.cons (NoS.arrT (fun _=>J)) .nil)) J fun b24=>rM J J<|rX J J J<|rX J J J<|rA J J<|rA J J<|rN<|tSR<|ARun.qv (q_load_ptr_all J J .p2 J) J<|rM J J<|rM J J<|rM J J<|bndE h fun v25 e14 h=>r_callpB J (rule_Value_c e14) (.cons (.co (.refl _)) (.cons (CoB.arrT .p3) (.cons (.co (.refl _)) (.cons (.co (.refl _)) .nil)))) J J<|rM J J<|rX J J J<|rX J J J<|rX J J J<|n_alloc J J J J fun b26=>n_store_ptr J J J J .p0 J J<|rA J J<|rA J J<|rN<|tSR<|ARun.qv (q_load_ptr_all J J .p3 J) J<|rM J J<|rM J J<|rM J J<|bndE h fun v27 e15 h=>r_callpB J (rule_State_c e15) (.cons (.co (.refl _)) (.cons (CoB.arrT .p4) (.cons (.co (.refl _)) (.cons (.co (.refl _)) .nil)))) J J<|rM J J<|rX J J J<|rX J J J<|rA J J<|rA J J<|rN<|tSR<|rM J J<|bndE h fun v28 e16 h=>r_callpB J (Q_SamplesFault_c e16) (.cons (CoB.arrT .p4) .nil) J J<|rA J J<|rN<|tS<|tS<|ATodo.cut (fun σ'=>∃ (c29 : Bool),L_RulesLook_j4 v4 v6 v8 v9 l15 v23 v25 v27 v28 c29 = some r ∧ σ' = ⟨185,[(5,.ptr b10 0),(6,.sl 4 b7 0 v6.1.length),(7,.str v8.1),(8,I v9.1),(9,.sl 4 b14 0 l15.length),(10,.sl 4 b24 0 v23.1.length),(11,I v23.2),(12,.ptr b26 0),(13,.bool v25.2.1),(14,I v25.2.2),(15,I v27.1),(16,I v27.2),(17,I v28),(95,.bool c29)],[(b10,.cells (cE1 v4.1)),(b7,aE3 v6.1),(b14,aE3 l15),(b24,aE3 v23.1),(b26,.cells [I v25.1.Num,I v25.1.Den])]⟩) ?_ ?_
    · refine tR<|rM J J<|bndE h fun v30 e17 h=>r_callpB J (rule_CheckRules_c e17) (.cons (CoB.arrT .p2) .nil) J J<|rM J J<|bndE h fun v31 e18 h=>r_callpB J (Q_RulesFault_c e18) (.cons (CoB.arrT .p2) .nil) J J<|ARun.qv (q_neq J J) J<|rM J J<|ARun.guard_df J J J (fun hc=>?_) (fun hc=>?_)
      · exact have h := iteF hc h; rM J J<|rY J J J<|bndE h fun v32 e19 h=>r_callpB J (rule_CheckSamples_c e19) (.cons (CoB.arrT .p4) .nil) J J<|rY J J J<|rM J J<|rY J J J<|ARun.qv (q_neq J J) J<|rE J J J<|rN<|ATodo.stop<|ImpX.lq [3,3,3,1,0] ⟨decide (v32 ≠ v28),h,J⟩ J J
      · exact have h := iteT hc h; rG J J J J<|rG J J J J<|rG J J J J<|rT J J J<|rN<|ATodo.stop<|ImpX.lq [3,3,3,1,0] ⟨true,h,J⟩ J J
    · rintro σ' ⟨c29, h, rfl⟩
      unfold L_RulesLook_j4 at h
      refine ATodo.cond J (fun hc=>?_) (fun hc=>?_)
      · refine have h := iteT hc h; tSR<|rA J J<|rN<|ATodo.ret<|?_
        obtain rfl := Option.some.inj h
        exact ImpX.here ⟨_,.cons (.tmp _ _ J) .nil,J⟩
      · refine have h := iteFb hc h; tK<|tSR<|rM J J<|rM J J<|bndE h fun v33 e20 h=>r_callpB J (Q_SamplesFault_c e20) (.cons (CoB.arrT .p2) .nil) J J<|n_buildSliceL (xs := ([v28,v33] : List Int).map I) J J J J J J<|bndE h fun v34 e21 h=>r_callp J (cmp_Or_Errno_c e21) (CoL.refl _) J<|rA J J<|rN<|tSR<|rA J J<|rN<|tS<|tSR<|rM J J<|ARun.qv (q_eql J J) J<|rN<|ATodo.cut (fun σ'=>∃ (b36 : Bk) (n35 : Int) (l37 : List Sample),L_RulesLook_j5 v4 v6 v8 v9 v23 v25 v27 v28 n35 l37 = some r ∧ σ' = ⟨185,[(5,.ptr b10 0),(6,.sl 4 b7 0 v6.1.length),(7,.str v8.1),(8,I v9.1),(10,.sl 4 b24 0 v23.1.length),(11,I v23.2),(12,.ptr b26 0),(13,.bool v25.2.1),(14,I v25.2.2),(15,I v27.1),(16,I v27.2),(17,I v28),(18,I n35),(19,.sl 4 b36 0 l37.length)],[(b10,.cells (cE1 v4.1)),(b7,aE3 v6.1),(b24,aE3 v23.1),(b26,.cells [I v25.1.Num,I v25.1.Den]),(b36,aE3 l37)]⟩) ?_ ?_
        · refine ATodo.cond_d J (fun hc=>?_) (fun hc=>?_)
          · exact have h := iteT hc h; tR<|rM J J<|rM J J<|bndE h fun v38 e22 h=>t_callL1 J (Q_SamplesMerged_c e22) .nil (.cons (CoB.arrT .p1) (.cons (CoB.arrT .p2) .nil)) (fun _=>J) (fun _=>J) (fun _=>(.cons (NoS.arrT (fun _=>J)) .nil)) J fun b39=>rM J J<|rX J J J<|rX J J J<|rA J J<|rA J J<|rN<|ATodo.stop<|ImpX.lq [1,1,2,2,0] ⟨b39,v38.2,v38.1,h,J⟩ J J
          · exact have h := iteF hc h; tK<|ATodo.stop<|ImpX.arr (s := 19) 4 J fun b40=>ImpX.lq [1,1,2,2,0] ⟨b40,v34,[],h,J⟩ J J
        · rintro σ' ⟨b36, n35, l37, h, rfl⟩
          unfold L_RulesLook_j5 at h
          refine tS<|tS<|ATodo.cut (fun σ'=>∃ (c41 : Bool),L_RulesLook_j6 v4 v6 v8 v9 v25 v27 v28 c41 = some r ∧ σ' = ⟨185,[(5,.ptr b10 0),(6,.sl 4 b7 0 v6.1.length),(7,.str v8.1),(8,I v9.1),(12,.ptr b26 0),(13,.bool v25.2.1),(14,I v25.2.2),(15,I v27.1),(16,I v27.2),(17,I v28),(117,.bool c41)],[(b10,.cells (cE1 v4.1)),(b7,aE3 v6.1),(b26,.cells [I v25.1.Num,I v25.1.Den])]⟩) ?_ ?_
          · refine tR<|rM J J<|rM J J<|ARun.qv (q_neq J J) J<|rM J J<|ARun.guard_df J J J (fun hc=>?_) (fun hc=>?_)
            · exact have h := iteF hc h; rM J J<|rY J J J<|rM J J<|rY J J J<|bndE h fun v42 e23 h=>r_callpB J (slices_Equal_Sample_Sample_c e23) (.cons (CoB.arrT .p2) (.cons (CoB.arrT .p4) .nil)) J J<|rY J J J<|ARun.qv (q_not J) J<|rE J J J<|rN<|ATodo.stop<|ImpX.lq [0,0,1] ⟨!v42,h,J⟩ J J
            · exact have h := iteT hc h; rG J J J J<|rG J J J J<|rG J J J J<|rT J J J<|rN<|ATodo.stop<|ImpX.lq [0,0,1] ⟨true,h,J⟩ J J
          · rintro σ' ⟨c41, h, rfl⟩
            unfold L_RulesLook_j6 at h
            refine ATodo.cond J (fun hc=>?_) (fun hc=>?_)
            · refine have h := iteT hc h; tSR<|rA J J<|rN<|ATodo.ret<|?_
              obtain rfl := Option.some.inj h
              exact ImpX.here ⟨_,.cons (.tmp _ _ J) .nil,J⟩
            · refine have h := iteFb hc h; tK<|tS<|tSR<|ARun.qv (q_load_ptr_all J J .p0 J) J<|n_buildSliceL (xs := ([v4.1] : List Rule).map Rule.av) J J J J J J<|bndE h fun v43 e24 h=>r_callp J (Q_RulesFault_c e24) (CoL.refl _) J<|rM J J<|rM J J<|bndE h fun v44 e25 h=>r_callp J (Q_KeyFault_c e25) (CoL.refl _) J<|rM J J<|r_callp J (Q_MomentFault_c J) (CoL.refl _) J<|n_buildSliceL (xs := ([v43,v28,v44,(Q_MomentFault v9.1)] : List Int).map I) J J J J J J<|bndE h fun v45 e26 h=>r_callp J (cmp_Or_Errno_c e26) (CoL.refl _) J<|rA J J<|rN<|tSR<|rM J J<|ARun.qv (q_neq J J) J<|rN<|ATodo.cond_d J (fun hc=>?_) (fun hc=>?_)
              · refine have h := iteT hc h; tS<|ATodo.cut (fun σ'=>∃ (c46 : Bool),L_RulesLook_j7 c46 = some r ∧ σ' = ⟨185,[(2,.bool c46)],[]⟩) ?_ ?_
                · refine tR<|rM J J<|rM J J<|ARun.qv (q_eql J J) J<|rM J J<|ARun.guard_dt J J J (fun hc=>?_) (fun hc=>?_)
                  · refine have h := iteT hc h; rM J J<|rY J J J<|rM J J<|rY J J J<|ARun.qv (q_eql J J) J<|rT J J J<|rM J J<|ARun.guard_dt J J J (fun hc=>?_) (fun hc=>?_)
                    · refine have h := iteT hc h; rM J J<|rY J J J<|ARun.qv (q_not J) J<|rT J J J<|rM J J<|ARun.guard J J J (fun hc=>?_) (fun hc=>?_)
                      · refine have h := iteT hc h; rM J J<|rY J J J<|ARun.qv (q_eql J J) J<|rT J J J<|rM J J<|ARun.guard_dt J J J (fun hc=>?_) (fun hc=>?_)
                        · exact have h := iteT hc h; bndE h fun v47 e27 h=>r_callp J (L_ruled_c e27) (CoL.refl _) J<|rT J J J<|rA J J<|rN<|ATodo.stop<|ImpX.lq [] ⟨v47,h,J⟩ J J
                        · exact have h := iteF hc h; rE J J J<|rA J J<|rN<|ATodo.stop<|ImpX.lq [] ⟨false,h,J⟩ J J
                      · exact have h := iteFb hc h; rG J J J J<|rE J J J<|rM J J<|rG J J J J<|rE J J J<|rA J J<|rN<|ATodo.stop<|ImpX.lq [] ⟨false,h,J⟩ J J
                    · exact have h := iteF hc h; rG J J J J<|rE J J J<|rM J J<|rG J J J J<|rG J J J J<|rE J J J<|rM J J<|rG J J J J<|rE J J J<|rA J J<|rN<|ATodo.stop<|ImpX.lq [] ⟨false,h,J⟩ J J
                  · exact have h := iteF hc h; rG J J J J<|rG J J J J<|rE J J J<|rM J J<|rG J J J J<|rG J J J J<|rE J J J<|rM J J<|rG J J J J<|rG J J J J<|rE J J J<|rM J J<|rG J J J J<|rE J J J<|rA J J<|rN<|ATodo.stop<|ImpX.lq [] ⟨false,h,J⟩ J J
                · rintro σ' ⟨c46, h, rfl⟩
                  unfold L_RulesLook_j7 at h
                  refine ATodo.ret<|?_
                  obtain rfl := Option.some.inj h
                  exact ImpX.here ⟨_,.cons (.tmp _ _ J) .nil,J⟩
              · refine have h := iteF hc h; tK<|tSR<|ARun.qv (q_load_ptr_all J J .p0 J) J<|rM J J<|rM J J<|rM J J<|bndE h fun v48 e28 h=>r_callpB J (Q_ValueOf_c e28) (.cons (.co (.refl _)) (.cons (CoB.arrT .p1) (.cons (.co (.refl _)) (.cons (.co (.refl _)) .nil)))) J J<|rM J J<|rX J J J<|rX J J J<|n_alloc J J J J fun b49=>n_store_ptr J J J J .p0 J J<|rA J J<|rN<|tS<|ATodo.cut (fun σ'=>∃ (c50 : Bool),L_RulesLook_j8 c50 = some r ∧ σ' = ⟨185,[(2,.bool c50)],[]⟩) ?_ ?_
                · refine tR<|rM J J<|ARun.qv (q_eql J J) J<|rM J J<|ARun.guard_dt J J J (fun hc=>?_) (fun hc=>?_)
                  · refine have h := iteT hc h; rM J J<|rY J J J<|ARun.qv (q_eql J J) J<|rT J J J<|rM J J<|ARun.guard_dt J J J (fun hc=>?_) (fun hc=>?_)
                    · refine have h := iteT hc h; ARun.qv (q_load_ptr_all J J .p3 J) J<|rY J J J<|ARun.qv (q_load_ptr_all J J .p0 J) J<|rY J J J<|ARun.qv (t_teq (g := Fraction.av) (X := v25.1) (Y := v48.1) J J J J J) J<|rT J J J<|rM J J<|ARun.guard_dt J J J (fun hc=>?_) (fun hc=>?_)
                      · refine have h := iteT hc h; rM J J<|rY J J J<|rM J J<|rY J J J<|ARun.qv (q_beq J J) J<|rT J J J<|rM J J<|ARun.guard J J J (fun hc=>?_) (fun hc=>?_)
                        · refine have h := iteT hc h; rM J J<|rY J J J<|ARun.qv (q_load_ptr_all J J .p1 J) J<|rY J J J<|rM J J<|rY J J J<|rM J J<|rY J J J<|rM J J<|rY J J J<|bndE h fun v51 e29 h=>r_callpB J (Q_StateOf_c e29) (.cons (.co (.refl _)) (.cons (CoB.arrT .p2) (.cons (.co (.refl _)) (.cons (.co (.refl _)) .nil)))) J J<|rY J J J<|ARun.qv (q_eql J J) J<|rT J J J<|rM J J<|ARun.guard_dt J J J (fun hc=>?_) (fun hc=>?_)
                          · exact have h := iteT hc h; bndE h fun v52 e30 h=>r_callp J (L_ruled_c e30) (CoL.refl _) J<|rT J J J<|rA J J<|rN<|ATodo.stop<|ImpX.lq [] ⟨v52,h,J⟩ J J
                          · exact have h := iteF hc h; rE J J J<|rA J J<|rN<|ATodo.stop<|ImpX.lq [] ⟨false,h,J⟩ J J
                        · exact have h := iteFb hc h; rG J J J J<|rG J J J J<|rG J J J J<|rG J J J J<|rG J J J J<|rG J J J J<|rE J J J<|rM J J<|rG J J J J<|rE J J J<|rA J J<|rN<|ATodo.stop<|ImpX.lq [] ⟨false,h,J⟩ J J
                      · exact have h := iteF hc h; rG J J J J<|rG J J J J<|rE J J J<|rM J J<|rG J J J J<|rG J J J J<|rG J J J J<|rG J J J J<|rG J J J J<|rG J J J J<|rG J J J J<|rE J J J<|rM J J<|rG J J J J<|rE J J J<|rA J J<|rN<|ATodo.stop<|ImpX.lq [] ⟨false,h,J⟩ J J
                    · exact have h := iteF hc h; rG J J J J<|rG J J J J<|rE J J J<|rM J J<|rG J J J J<|rG J J J J<|rG J J J J<|rE J J J<|rM J J<|rG J J J J<|rG J J J J<|rG J J J J<|rG J J J J<|rG J J J J<|rG J J J J<|rG J J J J<|rE J J J<|rM J J<|rG J J J J<|rE J J J<|rA J J<|rN<|ATodo.stop<|ImpX.lq [] ⟨false,h,J⟩ J J
                  · exact have h := iteF hc h; rG J J J J<|rE J J J<|rM J J<|rG J J J J<|rG J J J J<|rG J J J J<|rE J J J<|rM J J<|rG J J J J<|rG J J J J<|rG J J J J<|rE J J J<|rM J J<|rG J J J J<|rG J J J J<|rG J J J J<|rG J J J J<|rG J J J J<|rG J J J J<|rG J J J J<|rE J J J<|rM J J<|rG J J J J<|rE J J J<|rA J J<|rN<|ATodo.stop<|ImpX.lq [] ⟨false,h,J⟩ J J
                · rintro σ' ⟨c50, h, rfl⟩
                  unfold L_RulesLook_j8 at h
                  refine ATodo.ret<|?_
                  obtain rfl := Option.some.inj h
                  exact ImpX.here ⟨_,.cons (.tmp _ _ J) .nil,J⟩

end Go.Proofs.YtppnalkmokajgaaGreatDoor

