/- The code computes the plain functions: proofs written by shal.py. -/
import Derived.Test.YtohnopfmfehhkaaGreatDoorOrgW2
set_option maxHeartbeats 4000000
set_option maxRecDepth 100000
set_option linter.unusedVariables false
set_option linter.unusedSimpArgs false
namespace Go.Proofs.YtohnopfmfehhkaaGreatDoor
open Go Go.Eng Go.Proofs Go.Beacon
attribute [local irreducible] ARun ATodo AQ QV ACall ImpX AWp AM
theorem item_partFault_bd_c {self : Query → Option Int} (self_h : ∀ {p0x0 : Query} {r : Int},self p0x0 = some r → Pu Tryz.prog 212 [.agg [I p0x0.Kind,.str p0x0.Field,.str p0x0.Op,I p0x0.Value.Kind,.bool p0x0.Value.Flag,I p0x0.Value.Number,.str p0x0.Value.Words,I p0x0.Version.Major,I p0x0.Version.Minor,I p0x0.Version.Patch,.list 11 (p0x0.Kids.map Query.av)]] (I r)) {p0x0 : Query} {r : Int} (h : item_partFault_bd self p0x0 = some r) : Pu Tryz.prog 212 [.agg [I p0x0.Kind,.str p0x0.Field,.str p0x0.Op,I p0x0.Value.Kind,.bool p0x0.Value.Flag,I p0x0.Value.Number,.str p0x0.Value.Words,I p0x0.Version.Major,I p0x0.Version.Minor,I p0x0.Version.Patch,.list 11 (p0x0.Kids.map Query.av)]] (I r) := by
  unfold item_partFault_bd at h
  refine ACall.bodyN Tryz.func212 J Tryz.ntmps212 Tryz.results212 J J ?_
  refine tSR<|n_box J J J J fun b1=>rA J J<|rN<|tS<|tSR<|ARun.qv (q_load_ptr_all J J .p0 J) J<|bndE h fun v2 e1 h=>r_callp J (item_formFault_c e1) (CoL.refl _) J<|rA J J<|rN<|tSR<|rM J J<|ARun.qv (q_neq J J) J<|rN<|ATodo.cond_d J (fun hc=>?_) (fun hc=>?_)
  · refine have h := iteT hc h; tSR<|rM J J<|rA J J<|rN<|ATodo.ret<|?_
    obtain rfl := Option.some.inj h
    exact ImpX.here ⟨_,.cons (.tmp _ _ J) .nil,J⟩
  · refine have h := iteF hc h; tK<|tS<|tS<|ATodo.cut (fun σ'=>∃ (c3 : Bool),item_partFault_j1 self p0x0 c3 = some r ∧ σ' = ⟨35,[(1,.ptr b1 0),(19,.bool c3)],[(b1,.cells [I p0x0.Kind,.str p0x0.Field,.str p0x0.Op,I p0x0.Value.Kind,.bool p0x0.Value.Flag,I p0x0.Value.Number,.str p0x0.Value.Words,I p0x0.Version.Major,I p0x0.Version.Minor,I p0x0.Version.Patch,.list 11 (p0x0.Kids.map Query.av)])]⟩) ?_ ?_
    · refine tR<|rF J J J<|rL J J .p0 J J<|ARun.qv (q_eql J J) J<|rM J J<|ARun.guard_df J J J (fun hc=>?_) (fun hc=>?_)
      · rw [orFd hc] at h
        exact rF J J J<|rY J J J<|rL J J .p0 J J<|rY J J J<|ARun.qv (q_eql J J) J<|rE J J J<|rN<|ATodo.stop<|ImpX.lq [0] ⟨decide (p0x0.Kind = (2 : Int)),h,J⟩ J J
      · rw [orTd hc] at h
        exact rG J J J J<|rG J J J J<|rT J J J<|rN<|ATodo.stop<|ImpX.lq [0] ⟨true,h,J⟩ J J
    · rintro σ' ⟨c3, h, rfl⟩
      unfold item_partFault_j1 at h
      refine ATodo.cond J (fun hc=>?_) (fun hc=>?_)
      · refine have h := iteT hc h; tSR<|ARun.qv (q_load_ptr_all J J .p0 J) J<|bndE h fun v4 e2 h=>r_callp J (item_leafFault_c e2) (CoL.refl _) J<|rA J J<|rN<|ATodo.ret<|?_
        obtain rfl := Option.some.inj h
        exact ImpX.here ⟨_,.cons (.tmp _ _ J) .nil,J⟩
      · refine have h := iteFb hc h; tK<|tS<|tSR<|rF J J J<|rL J J .p0 J J<|ARun.qv (t_len J) J<|rM J J<|rN<|ATodo.block<|ATodo.loopI (fun x : Int=>item_partFault_b1 self p0x0 x) (fun x σ'=>σ' = ⟨35,[(23,.list 11 (p0x0.Kids.map Query.av)),(24,I (p0x0.Kids.length : Int)),(25,I x)],[]⟩) h ?_ ?_
        · exact ImpX.lq [] J J J
        · intro n6 z1 σ' J1 hmk h hJ1 hA1
          obtain rfl := hmk
          replace h : item_partFault_b1 self p0x0 n6 = some z1 := h
          unfold item_partFault_b1 at h
          refine tSR<|ARun.qv (q_lss J J) J<|rN<|tS<|ATodo.cond_d J (fun hc=>?_) (fun hc=>?_)
          · refine have h := iteT hc h; tK<|tS<|ATodo.block<|tSR<|bndE h fun v7 e3 h=>ARun.qv (t_index J J J e3 J (by rw [Query.av_eq]; rfl)) J<|ARun.qv (q_load_rptr_agg J J J) J<|n_alloc J J J J fun b8=>n_store_ptr J J J J .p0 J J<|rN<|tSR<|ARun.qv (q_load_ptr_all J J .p0 J) J<|bndE h fun v9 e4 h=>r_callp J (self_h e4) (CoL.refl _) J<|rA J J<|rN<|tSR<|rM J J<|ARun.qv (q_neq J J) J<|rN<|ATodo.cond_d J (fun hc=>?_) (fun hc=>?_)
            · refine have h := iteT hc h; tSR<|rM J J<|rA J J<|rN<|ATodo.ret<|have h := outL h hA1; ?_
              obtain rfl := Option.some.inj h
              exact ImpX.here ⟨_,.cons (.tmp _ _ J) .nil,J⟩
            · refine have h := iteF hc h; tK<|ATodo.blk<|tR<|ARun.qv (q_addw J J) J<|rM J J<|rN<|ATodo.stop<|?_
              obtain rfl := Option.some.inj h
              exact hJ1 _ _ J<|ImpX.lq [] J J J
          · refine have h := iteF hc h; ATodo.exit J<|have h := outL h hA1; tSR<|rA J J<|rN<|ATodo.ret<|?_
            obtain rfl := Option.some.inj h
            exact ImpX.here ⟨_,.cons (.tmp _ _ J) .nil,J⟩
theorem item_partFault_r_c : ∀ (k : Nat) {p0x0 : Query} {r : Int},item_partFault_r k p0x0 = some r → Pu Tryz.prog 212 [.agg [I p0x0.Kind,.str p0x0.Field,.str p0x0.Op,I p0x0.Value.Kind,.bool p0x0.Value.Flag,I p0x0.Value.Number,.str p0x0.Value.Words,I p0x0.Version.Major,I p0x0.Version.Minor,I p0x0.Version.Patch,.list 11 (p0x0.Kids.map Query.av)]] (I r) := by
  intro k
  induction k with
  | zero=>intro p0x0 r h; cases h
  | succ k ih=>intro p0x0 r h; exact item_partFault_bd_c ih h
theorem item_partFault_c {p0x0 : Query} {r : Int} (h : item_partFault p0x0 = some r) : Pu Tryz.prog 212 [.agg [I p0x0.Kind,.str p0x0.Field,.str p0x0.Op,I p0x0.Value.Kind,.bool p0x0.Value.Flag,I p0x0.Value.Number,.str p0x0.Value.Words,I p0x0.Version.Major,I p0x0.Version.Minor,I p0x0.Version.Patch,.list 11 (p0x0.Kids.map Query.av)]] (I r) := item_partFault_r_c depth h

theorem item_QueryFault_c {p0x0 : Query} {r : Int} (h : item_QueryFault p0x0 = some r) : Pu Tryz.prog 171 [.agg [I p0x0.Kind,.str p0x0.Field,.str p0x0.Op,I p0x0.Value.Kind,.bool p0x0.Value.Flag,I p0x0.Value.Number,.str p0x0.Value.Words,I p0x0.Version.Major,I p0x0.Version.Minor,I p0x0.Version.Patch,.list 11 (p0x0.Kids.map Query.av)]] (I r) := by
  unfold item_QueryFault at h
  refine ACall.bodyN Tryz.func171 J Tryz.ntmps171 Tryz.results171 J J ?_
  refine tSR<|n_box J J J J fun b1=>rA J J<|rN<|tS<|tSR<|ARun.qv (q_load_ptr_all J J .p0 J) J<|bndE h fun v2 e1 h=>r_callp J (item_Measure_c e1) (CoL.refl _) J<|rM J J<|rX J J J<|rX J J J<|rA J J<|rA J J<|rN<|tS<|ATodo.cut (fun σ'=>∃ (c3 : Bool),item_QueryFault_j1 p0x0 c3 = some r ∧ σ' = ⟨18,[(1,.ptr b1 0),(15,.bool c3)],[(b1,.cells [I p0x0.Kind,.str p0x0.Field,.str p0x0.Op,I p0x0.Value.Kind,.bool p0x0.Value.Flag,I p0x0.Value.Number,.str p0x0.Value.Words,I p0x0.Version.Major,I p0x0.Version.Minor,I p0x0.Version.Patch,.list 11 (p0x0.Kids.map Query.av)])]⟩) ?_ ?_
  · refine tR<|rM J J<|ARun.qv (q_gtr J J) J<|rM J J<|ARun.guard_df J J J (fun hc=>?_) (fun hc=>?_)
    · rw [orFd hc] at h
      exact rM J J<|rY J J J<|ARun.qv (q_gtr J J) J<|rE J J J<|rN<|ATodo.stop<|ImpX.lq [0] ⟨decide ((20 : Int) < v2.2),h,J⟩ J J
    · rw [orTd hc] at h
      exact rG J J J J<|rT J J J<|rN<|ATodo.stop<|ImpX.lq [0] ⟨true,h,J⟩ J J
  · rintro σ' ⟨c3, h, rfl⟩
    unfold item_QueryFault_j1 at h
    refine ATodo.cond J (fun hc=>?_) (fun hc=>?_)
    · refine have h := iteT hc h; tSR<|rA J J<|rN<|ATodo.ret<|?_
      obtain rfl := Option.some.inj h
      exact ImpX.here ⟨_,.cons (.tmp _ _ J) .nil,J⟩
    · refine have h := iteFb hc h; tK<|tSR<|ARun.qv (q_load_ptr_all J J .p0 J) J<|bndE h fun v4 e2 h=>r_callp J (item_partFault_c e2) (CoL.refl _) J<|rA J J<|rN<|ATodo.ret<|?_
      obtain rfl := Option.some.inj h
      exact ImpX.here ⟨_,.cons (.tmp _ _ J) .nil,J⟩

theorem base_First_c [GI : GTab] {p0x0 : List Int} {r : Int} (h : base_First p0x0 = some r) : Pu Tryz.prog 115 [.list 1 (p0x0.map I)] (I r) := by
  unfold base_First at h
  refine ACall.bodyN Tryz.func115 J Tryz.ntmps115 Tryz.results115 J J ?_
  refine tSR<|rA J J<|rN<|tS<|tSR<|rM J J<|ARun.qv (t_len J) J<|rM J J<|rN<|ATodo.block<|ATodo.loopI (fun x : Int=>base_First_b1 p0x0 x) (fun x σ'=>σ' = ⟨15,[(5,.list 1 (p0x0.map I)),(6,I (p0x0.length : Int)),(7,I x)],[]⟩) h ?_ ?_
  · exact ImpX.lq [] J J J
  · intro n2 z1 σ' J1 hmk h hJ1 hA1
    obtain rfl := hmk
    replace h : base_First_b1 p0x0 n2 = some z1 := h
    unfold base_First_b1 at h
    refine tSR<|ARun.qv (q_lss J J) J<|rN<|tS<|ATodo.cond_d J (fun hc=>?_) (fun hc=>?_)
    · refine have h := iteT hc h; tK<|tS<|ATodo.block<|tSR<|bndE h fun v3 e1 h=>ARun.qv (t_index J J J e1 J J) J<|ARun.qv (q_load_rptr J J J) J<|rA J J<|rN<|tSR<|rM J J<|ARun.qv (q_neq J J) J<|rN<|ATodo.cond_d J (fun hc=>?_) (fun hc=>?_)
      · refine have h := iteT hc h; tSR<|rM J J<|rA J J<|rN<|ATodo.ret<|have h := outL h hA1; ?_
        obtain rfl := Option.some.inj h
        exact ImpX.here ⟨_,.cons (.tmp _ _ J) .nil,J⟩
      · refine have h := iteF hc h; tK<|ATodo.blk<|tR<|ARun.qv (q_addw J J) J<|rM J J<|rN<|ATodo.stop<|?_
        obtain rfl := Option.some.inj h
        exact hJ1 _ _ J<|ImpX.lq [] J J J
    · refine have h := iteF hc h; ATodo.exit J<|have h := outL h hA1; tSR<|rA J J<|rN<|ATodo.ret<|?_
      obtain rfl := Option.some.inj h
      exact ImpX.here ⟨_,.cons (.tmp _ _ J) .nil,J⟩

theorem base_Window_c [GI : GTab] {p0x0 : Window} {r : Bool} (h : base_Window p0x0 = r) : Pu Tryz.prog 208 [.agg [I p0x0.From,I p0x0.To]] (.bool r) := by
  unfold base_Window at h
  refine ACall.bodyN Tryz.func208 J Tryz.ntmps208 Tryz.results208 J J ?_
  refine tSR<|n_box J J J J fun b1=>rA J J<|rN<|tS<|ATodo.cut (fun σ'=>∃ (c2 : Bool),base_Window_j1 c2 = r ∧ σ' = ⟨14,[(2,.bool c2)],[]⟩) ?_ ?_
  · refine tR<|rF J J J<|rL J J .p0 J J<|rF J J J<|rL J J .p0 J J<|r_callp J (base_Out_c J) (CoL.refl _) J<|ARun.qv (q_not J) J<|rM J J<|ARun.guard J J J (fun hc=>?_) (fun hc=>?_)
    · rw [andTb hc] at h
      exact rF J J J<|rY J J J<|rL J J .p0 J J<|rY J J J<|ARun.qv (q_leq J J) J<|rT J J J<|rA J J<|rN<|ATodo.stop<|ImpX.lq [] ⟨decide (p0x0.To ≤ (345686400000 : Int)),h,J⟩ J J
    · rw [andFb hc] at h
      exact rG J J J J<|rG J J J J<|rE J J J<|rA J J<|rN<|ATodo.stop<|ImpX.lq [] ⟨false,h,J⟩ J J
  · rintro σ' ⟨c2, h, rfl⟩
    unfold base_Window_j1 at h
    refine ATodo.ret<|?_
    obtain rfl := h
    exact ImpX.here ⟨_,.cons (.tmp _ _ J) .nil,J⟩

theorem tenant_view_sharesFault_c {b_0 : Bk} {b_0x4 : Bk} {b_0x5 : Bk} {b_0x6 : Bk} {b_0x7 : Bk} {b_0x8 : Bk} {p0x0 : Tenant_view} {r : Int} (h : tenant_view_sharesFault p0x0 = some r) : ACall Tryz.prog 155 [.ptr b_0 0] [(b_0,.cells [.list 2 (p0x0.Org.Tenants.map Tenant.av),.list 2 (p0x0.Org.Roles.map Role.av),.list 3 (p0x0.Org.Members.map Member.av),.list 17 (p0x0.Org.Shares.map Share.av),.mref b_0x4,.mref b_0x5,.mref b_0x6,.mref b_0x7,.mref b_0x8]),(b_0x4,.mp (p0x0.parent_.map (fun e=>(AV.str e.1,AV.str e.2))))] (T0 ([(b_0,.cells [.list 2 (p0x0.Org.Tenants.map Tenant.av),.list 2 (p0x0.Org.Roles.map Role.av),.list 3 (p0x0.Org.Members.map Member.av),.list 17 (p0x0.Org.Shares.map Share.av),.mref b_0x4,.mref b_0x5,.mref b_0x6,.mref b_0x7,.mref b_0x8]),(b_0x4,.mp (p0x0.parent_.map (fun e=>(AV.str e.1,AV.str e.2))))]) (I r)) := by
  unfold tenant_view_sharesFault at h
  refine ACall.lessH ?_
  refine ACall.bodyN Tryz.func155 J Tryz.ntmps155 Tryz.results155 J J ?_
  refine tSR<|rA J J<|rN<|tS<|tSR<|rM J J<|ARun.qv (q_nilCheck_ptr J) J<|rF J J J<|rF J J J<|rL J J .p0 J J<|ARun.qv (t_len J) J<|ARun.qv (q_gtr J J) J<|rN<|ATodo.cond_d J (fun hc=>?_) (fun hc=>?_)
  · refine have h := iteT hc h; tSR<|rA J J<|rN<|ATodo.ret<|?_
    obtain rfl := Option.some.inj h
    exact ImpX.here ⟨_,.cons (.tmp _ _ J) .nil,_,.cons .p0 (.cons .p0 .nil),⟨J,J⟩⟩
  · refine have h := iteF hc h; tK<|tS<|tSR<|rM J J<|ARun.qv (q_nilCheck_ptr J) J<|rF J J J<|rF J J J<|rL J J .p0 J J<|ARun.qv (t_len J) J<|rM J J<|rN<|ATodo.block<|ATodo.loopI (fun x : Int=>tenant_view_sharesFault_b1 p0x0 x) (fun x σ'=>σ' = ⟨98,[(0,.ptr b_0 0),(17,.list 17 (p0x0.Org.Shares.map Share.av)),(18,I (p0x0.Org.Shares.length : Int)),(19,I x)],[(b_0,.cells [.list 2 (p0x0.Org.Tenants.map Tenant.av),.list 2 (p0x0.Org.Roles.map Role.av),.list 3 (p0x0.Org.Members.map Member.av),.list 17 (p0x0.Org.Shares.map Share.av),.mref b_0x4,.mref b_0x5,.mref b_0x6,.mref b_0x7,.mref b_0x8]),(b_0x4,.mp (p0x0.parent_.map (fun e=>(AV.str e.1,AV.str e.2))))]⟩) h ?_ ?_
    · exact ImpX.lq [0,0] J J J
    · intro n2 z1 σ' J1 hmk h hJ1 hA1
      obtain rfl := hmk
      replace h : tenant_view_sharesFault_b1 p0x0 n2 = some z1 := h
      unfold tenant_view_sharesFault_b1 at h
      refine tSR<|ARun.qv (q_lss J J) J<|rN<|tS<|ATodo.cond_d J (fun hc=>?_) (fun hc=>?_)
      · refine have h := iteT hc h; tK<|tS<|ATodo.block<|tSR<|rM J J<|bndE h fun v3 e1 h=>ARun.qv (t_index J J J e1 J J) J<|ARun.qv (q_load_rptr_agg J J J) J<|n_alloc J J J J fun b4=>rA J J<|n_store_ptr J J J J .p0 J J<|rN<|tS<|ATodo.block<|tSR<|rF J J J<|rL J J .p0 J J<|bndE h fun v5 e2 h=>r_callp J (base_Key_c e2) (CoL.refl _) J<|ARun.qv (q_not J) J<|rA J J<|rN<|ATodo.cond J (fun hc=>?_) (fun hc=>?_)
        · refine have h := iteT hc h; tSR<|rA J J<|rN<|ATodo.ret<|have h := outL h hA1; ?_
          obtain rfl := Option.some.inj h
          exact ImpX.here ⟨_,.cons (.tmp _ _ J) .nil,_,.cons .p1 (.cons .p1 .nil),⟨J,J⟩⟩
        · refine have h := iteFb hc h; tS<|ATodo.cut (fun σ'=>∃ (c6 : Bool),tenant_view_sharesFault_j1 p0x0 n2 v3 c6 = some z1 ∧ σ' = ⟨98,[(0,.ptr b_0 0),(4,.ptr b4 0),(17,.list 17 (p0x0.Org.Shares.map Share.av)),(18,I (p0x0.Org.Shares.length : Int)),(19,I n2),(29,.bool c6)],[(b_0,.cells [.list 2 (p0x0.Org.Tenants.map Tenant.av),.list 2 (p0x0.Org.Roles.map Role.av),.list 3 (p0x0.Org.Members.map Member.av),.list 17 (p0x0.Org.Shares.map Share.av),.mref b_0x4,.mref b_0x5,.mref b_0x6,.mref b_0x7,.mref b_0x8]),(b_0x4,.mp (p0x0.parent_.map (fun e=>(AV.str e.1,AV.str e.2)))),(b4,.cells [.str v3.Key,.str v3.From,.str v3.To,I v3.Query.Kind,.str v3.Query.Field,.str v3.Query.Op,I v3.Query.Value.Kind,.bool v3.Query.Value.Flag,I v3.Query.Value.Number,.str v3.Query.Value.Words,I v3.Query.Version.Major,I v3.Query.Version.Minor,I v3.Query.Version.Patch,.list 11 (v3.Query.Kids.map Query.av),.list 1 (v3.Acts.map AV.str),I v3.Time.From,I v3.Time.To])]⟩) ?_ ?_
          · refine ATodo.regionM (id := 8) (A := [0,1,3,7,15,7,39,103,231,487,7,1031,4071,8167,16359,32767,65535,131071]) 18 mixed J (by kernel_rfl) (by kernel_rfl)<|AM.qv (q_move J) J<|AM.qv (q_gtr J J) J<|AM.qv (q_move J) J<|AM.guard_dt J J J (fun hc=>?_) (fun hc=>?_)
            · exact have h := iteT hc h; AM.qv (n_field_ptr J J) J<|AM.guard_yes J J J<|AM.qv (q_load_ptr J J .p0 J) J<|AM.guard_yes J J J<|AM.qv (q_move J) J<|AM.guard_yes J J J<|AM.qv (q_nilCheck_ptr J) J<|AM.guard_yes J J J<|AM.qv (n_field_ptr J J) J<|AM.guard_yes J J J<|AM.qv (n_field_ptr J J) J<|AM.guard_yes J J J<|AM.qv (q_load_ptr J J .p1 J) J<|AM.guard_yes J J J<|AM.qv (q_move J) J<|AM.guard_yes J J J<|AM.qv (q_subw J J) J<|AM.guard_yes J J J<|bndE h fun v7 e3 h=>AM.qv (t_index J J J e3 J J) J<|AM.guard_yes J J J<|AM.qv (n_field_rptr J J) J<|AM.guard_yes J J J<|AM.qv (q_load_rptr J J J) J<|AM.guard_yes J J J<|AM.qv (t_sleq J J) J<|AM.qv (q_pick_t J J) J<|AM.qv (q_assign J) J<|AM.nil<|rN<|ATodo.stop<|ImpX.lq [1,1,0] ⟨Op.bytesLess v3.Key v7.Key || v3.Key == v7.Key,h,J⟩ J J
            · exact have h := iteF hc h; AM.guard_no J J J J<|AM.guard_no J J J J<|AM.guard_no J J J J<|AM.guard_no J J J J<|AM.guard_no J J J J<|AM.guard_no J J J J<|AM.guard_no J J J J<|AM.guard_no J J J J<|AM.guard_no J J J J<|AM.guard_no J J J J<|AM.guard_no J J J J<|AM.guard_no J J J J<|AM.qv (q_pick_f J J) J<|AM.qv (q_assign J) J<|AM.nil<|rN<|ATodo.stop<|ImpX.lq [1,1,0] ⟨false,h,J⟩ J J
          · rintro σ' ⟨c6, h, rfl⟩
            unfold tenant_view_sharesFault_j1 at h
            refine ATodo.cond J (fun hc=>?_) (fun hc=>?_)
            · refine have h := iteT hc h; tSR<|rA J J<|rN<|ATodo.ret<|have h := outL h hA1; ?_
              obtain rfl := Option.some.inj h
              exact ImpX.here ⟨_,.cons (.tmp _ _ J) .nil,_,.cons .p0 (.cons .p0 .nil),⟨J,J⟩⟩
            · refine have h := iteFb hc h; tS<|ATodo.cut (fun σ'=>∃ (c8 : Bool),tenant_view_sharesFault_j2 p0x0 n2 v3 c8 = some z1 ∧ σ' = ⟨98,[(0,.ptr b_0 0),(4,.ptr b4 0),(17,.list 17 (p0x0.Org.Shares.map Share.av)),(18,I (p0x0.Org.Shares.length : Int)),(19,I n2),(47,.bool c8)],[(b_0,.cells [.list 2 (p0x0.Org.Tenants.map Tenant.av),.list 2 (p0x0.Org.Roles.map Role.av),.list 3 (p0x0.Org.Members.map Member.av),.list 17 (p0x0.Org.Shares.map Share.av),.mref b_0x4,.mref b_0x5,.mref b_0x6,.mref b_0x7,.mref b_0x8]),(b_0x4,.mp (p0x0.parent_.map (fun e=>(AV.str e.1,AV.str e.2)))),(b4,.cells [.str v3.Key,.str v3.From,.str v3.To,I v3.Query.Kind,.str v3.Query.Field,.str v3.Query.Op,I v3.Query.Value.Kind,.bool v3.Query.Value.Flag,I v3.Query.Value.Number,.str v3.Query.Value.Words,I v3.Query.Version.Major,I v3.Query.Version.Minor,I v3.Query.Version.Patch,.list 11 (v3.Query.Kids.map Query.av),.list 1 (v3.Acts.map AV.str),I v3.Time.From,I v3.Time.To])]⟩) ?_ ?_
              · refine tR<|rM J J<|rF J J J<|rL J J .p2 J J<|bndE h fun v9 e4 h=>t_call0 J (tenant_view_is_c e4) (CoL.refl _) (.cons .p0 (.cons .p0 .nil)) J J<|ARun.qv (q_not J) J<|rM J J<|ARun.guard J J J (fun hc=>?_) (fun hc=>?_)
                · exact have h := iteFb hc h; rM J J<|rY J J J<|rF J J J<|rY J J J<|rL J J .p2 J J<|rY J J J<|bndE h fun v10 e5 h=>t_call0 J (tenant_view_is_c e5) (CoL.refl _) (.cons .p0 (.cons .p0 .nil)) J J<|rY J J J<|ARun.qv (q_not J) J<|rE J J J<|rA J J<|rN<|ATodo.stop<|ImpX.lq [0,0,0] ⟨!v10,h,J⟩ J J
                · exact have h := iteT hc h; rG J J J J<|rG J J J J<|rG J J J J<|rG J J J J<|rT J J J<|rA J J<|rN<|ATodo.stop<|ImpX.lq [0,0,0] ⟨true,h,J⟩ J J
              · rintro σ' ⟨c8, h, rfl⟩
                unfold tenant_view_sharesFault_j2 at h
                refine ATodo.cond J (fun hc=>?_) (fun hc=>?_)
                · refine have h := iteT hc h; tSR<|rA J J<|rN<|ATodo.ret<|have h := outL h hA1; ?_
                  obtain rfl := Option.some.inj h
                  exact ImpX.here ⟨_,.cons (.tmp _ _ J) .nil,_,.cons .p0 (.cons .p0 .nil),⟨J,J⟩⟩
                · refine have h := iteFb hc h; tS<|ATodo.cut (fun σ'=>∃ (c11 : Bool),tenant_view_sharesFault_j3 n2 v3 c11 = some z1 ∧ σ' = ⟨98,[(0,.ptr b_0 0),(4,.ptr b4 0),(17,.list 17 (p0x0.Org.Shares.map Share.av)),(18,I (p0x0.Org.Shares.length : Int)),(19,I n2),(60,.bool c11)],[(b_0,.cells [.list 2 (p0x0.Org.Tenants.map Tenant.av),.list 2 (p0x0.Org.Roles.map Role.av),.list 3 (p0x0.Org.Members.map Member.av),.list 17 (p0x0.Org.Shares.map Share.av),.mref b_0x4,.mref b_0x5,.mref b_0x6,.mref b_0x7,.mref b_0x8]),(b_0x4,.mp (p0x0.parent_.map (fun e=>(AV.str e.1,AV.str e.2)))),(b4,.cells [.str v3.Key,.str v3.From,.str v3.To,I v3.Query.Kind,.str v3.Query.Field,.str v3.Query.Op,I v3.Query.Value.Kind,.bool v3.Query.Value.Flag,I v3.Query.Value.Number,.str v3.Query.Value.Words,I v3.Query.Version.Major,I v3.Query.Version.Minor,I v3.Query.Version.Patch,.list 11 (v3.Query.Kids.map Query.av),.list 1 (v3.Acts.map AV.str),I v3.Time.From,I v3.Time.To])]⟩) ?_ ?_
                  · refine tR<|rF J J J<|rL J J .p2 J J<|rF J J J<|rL J J .p2 J J<|ARun.qv (q_seq J J) J<|rM J J<|ARun.guard_df J J J (fun hc=>?_) (fun hc=>?_)
                    · refine have h := iteF hc h; rM J J<|rY J J J<|rF J J J<|rY J J J<|rL J J .p2 J J<|rY J J J<|rF J J J<|rY J J J<|rL J J .p2 J J<|rY J J J<|bndE h fun v12 e6 h=>t_call0 J (tenant_view_belongs_c e6) (CoL.refl _) (.cons .p0 (.cons .p0 .nil)) J J<|rE J J J<|rM J J<|ARun.guard J J J (fun hc=>?_) (fun hc=>?_)
                      · exact have h := iteFb hc h; rM J J<|rY J J J<|rF J J J<|rY J J J<|rL J J .p2 J J<|rY J J J<|rF J J J<|rY J J J<|rL J J .p2 J J<|rY J J J<|bndE h fun v13 e7 h=>t_call0 J (tenant_view_belongs_c e7) (CoL.refl _) (.cons .p0 (.cons .p0 .nil)) J J<|rE J J J<|rA J J<|rN<|ATodo.stop<|ImpX.lq [0,0,0] ⟨v13,h,J⟩ J J
                      · exact have h := iteT hc h; rG J J J J<|rG J J J J<|rG J J J J<|rG J J J J<|rG J J J J<|rT J J J<|rA J J<|rN<|ATodo.stop<|ImpX.lq [0,0,0] ⟨true,h,J⟩ J J
                    · exact have h := iteT hc h; rG J J J J<|rG J J J J<|rG J J J J<|rG J J J J<|rG J J J J<|rT J J J<|rM J J<|rG J J J J<|rG J J J J<|rG J J J J<|rG J J J J<|rG J J J J<|rG J J J J<|rT J J J<|rA J J<|rN<|ATodo.stop<|ImpX.lq [0,0,0] ⟨true,h,J⟩ J J
                  · rintro σ' ⟨c11, h, rfl⟩
                    unfold tenant_view_sharesFault_j3 at h
                    refine ATodo.cond J (fun hc=>?_) (fun hc=>?_)
                    · refine have h := iteT hc h; tSR<|rA J J<|rN<|ATodo.ret<|have h := outL h hA1; ?_
                      obtain rfl := Option.some.inj h
                      exact ImpX.here ⟨_,.cons (.tmp _ _ J) .nil,_,.cons .p0 (.cons .p0 .nil),⟨J,J⟩⟩
                    · refine have h := iteFb hc h; tK<|ATodo.blk<|tS<|tS<|ATodo.regionM (id := 14) (A := [0,1,3,0,8,31,63,127,255]) 9 mixed J (by kernel_rfl) (by kernel_rfl)<|AM.qv (n_field_ptr J J) J<|AM.qv (n_load_ptr_part J J .p2 J J) J<|bndE h fun v14 e8 h=>AM.callp J (item_QueryFault_c e8) (CoL.refl _) J<|AM.qv (n_field_ptr J J) J<|AM.qv (q_load_ptr J J .p2 J) J<|bndE h fun v15 e9 h=>AM.callp J (tenant_actsFault_c e9) (CoL.refl _) J<|AM.buildSliceL (xs := ([v14,v15] : List Int).map I) J J J J J J<|bndE h fun v16 e10 h=>AM.callp J (base_First_c e10) (CoL.refl _) J<|AM.qv (q_assign J) J<|AM.nil<|rN<|tSR<|rM J J<|ARun.qv (q_neq J J) J<|rN<|ATodo.cond_d J (fun hc=>?_) (fun hc=>?_)
                      · refine have h := iteT hc h; tSR<|rM J J<|rA J J<|rN<|ATodo.ret<|have h := outL h hA1; ?_
                        obtain rfl := Option.some.inj h
                        exact ImpX.here ⟨_,.cons (.tmp _ _ J) .nil,_,.cons .p0 (.cons .p0 .nil),⟨J,J⟩⟩
                      · refine have h := iteF hc h; tK<|tSR<|rF J J J<|ARun.qv (n_load_ptr_part J J .p2 J J) J<|r_callp J (base_Window_c J) (CoL.refl _) J<|ARun.qv (q_not J) J<|rN<|ATodo.cond J (fun hc=>?_) (fun hc=>?_)
                        · refine have h := iteT hc h; tSR<|rA J J<|rN<|ATodo.ret<|have h := outL h hA1; ?_
                          obtain rfl := Option.some.inj h
                          exact ImpX.here ⟨_,.cons (.tmp _ _ J) .nil,_,.cons .p0 (.cons .p0 .nil),⟨J,J⟩⟩
                        · refine have h := iteFb hc h; tK<|ATodo.blk<|tR<|ARun.qv (q_addw J J) J<|rM J J<|rN<|ATodo.stop<|?_
                          obtain rfl := Option.some.inj h
                          exact hJ1 _ _ J<|ImpX.lq [0,0] J J J
      · refine have h := iteF hc h; ATodo.exit J<|have h := outL h hA1; tSR<|rA J J<|rN<|ATodo.ret<|?_
        obtain rfl := Option.some.inj h
        exact ImpX.here ⟨_,.cons (.tmp _ _ J) .nil,_,.cons .p0 (.cons .p0 .nil),⟨J,J⟩⟩

theorem tenant_checked_c {p0x0 : Org} {r : (Option Tenant_view) × Int} (h : tenant_checked p0x0 = some r) : ACall Tryz.prog 75 [.agg [.list 2 (p0x0.Tenants.map Tenant.av),.list 2 (p0x0.Roles.map Role.av),.list 3 (p0x0.Members.map Member.av),.list 17 (p0x0.Shares.map Share.av)]] [] (TM r.1 (T0 ([]) (.tup [.raw (.pointer none),I r.2])) (fun x=>T6 (fun d_0 d_0x4 d_0x5 d_0x6 d_0x7 d_0x8=>[(d_0,.cells [.list 2 (x.Org.Tenants.map Tenant.av),.list 2 (x.Org.Roles.map Role.av),.list 3 (x.Org.Members.map Member.av),.list 17 (x.Org.Shares.map Share.av),.mref d_0x4,.mref d_0x5,.mref d_0x6,.mref d_0x7,.mref d_0x8]),(d_0x4,.mp (x.parent_.map (fun e=>(AV.str e.1,AV.str e.2)))),(d_0x5,.mp (x.acts_.map (fun e=>(AV.str e.1,(encL 1 AV.str) e.2)))),(d_0x6,.mp (x.at_.map (fun e=>(AV.str e.1,(encL 1 I) e.2)))),(d_0x7,.mp (x.found_.map (fun e=>(Tenant_asks.av e.1,(encL 1 I) e.2)))),(d_0x8,.mp (x.wider_.map (fun e=>(Tenant_asks.av e.1,AV.bool e.2))))]) (fun d_0 d_0x4 d_0x5 d_0x6 d_0x7 d_0x8=>.tup [.ptr d_0 0,I r.2]))) := by
  unfold tenant_checked at h
  refine ACall.lessH ?_
  refine ACall.bodyN Tryz.func75 J Tryz.ntmps75 Tryz.results75 J J ?_
  refine tSR<|n_box J J J J fun b1=>rA J J<|rA J J<|rN<|tSR<|ARun.qv (q_load_ptr_all J J .p0 J) J<|bndE h fun v2 e1 h=>t_call6 J (tenant_newView_c e1) (CoL.refl _) .nil (fun _ _ _ _ _ _=>J) J fun b3 b4 b5 b6 b7 b8=>rA J J<|rN<|tS<|tSR<|rM J J<|ARun.ghost<|ImpX.blkOf .p0 fun me2 hbe3=>ImpX.here<|ARun.qv (q_makeFuncB hbe3 J) J<|rM J J<|ARun.ghost<|ImpX.blkOf .p0 fun me4 hbe5=>ImpX.here<|ARun.qv (q_makeFuncB hbe5 J) J<|rM J J<|ARun.ghost<|ImpX.blkOf .p0 fun me6 hbe7=>ImpX.here<|ARun.qv (q_makeFuncB hbe7 J) J<|rM J J<|ARun.ghost<|ImpX.blkOf .p0 fun me8 hbe9=>ImpX.here<|ARun.qv (q_makeFuncB hbe9 J) J<|n_buildSliceL (xs := [.raw (.func (.func 152) #[.pointer (some ⟨me2,0,none⟩)] #[]),.raw (.func (.func 153) #[.pointer (some ⟨me4,0,none⟩)] #[]),.raw (.func (.func 154) #[.pointer (some ⟨me6,0,none⟩)] #[]),.raw (.func (.func 155) #[.pointer (some ⟨me8,0,none⟩)] #[])]) J J J J J J<|ARun.qv (QV.intE (b := (4 : Int)) (by rfl) (q_len_list J)) J<|rM J J<|rN<|ATodo.block<|ATodo.loopN 6<|ARounds.next<|tSR<|ARun.qv (QV.dT (by decide) (q_lss J J)) J<|rN<|tS<|ATodo.cond_t J<|tK<|tS<|ATodo.block<|tSR<|ARun.qv (q_index_list J J J J J) J<|ARun.qv (q_load_rptr J J J) J<|rA J J<|rN<|tSR<|rM J J<|bndE h fun v9 e10 h=>t_callb0 hbe3 J J (tenant_view_treeFault_c e10) (CoL.refl _) (.cons .p0 (.cons .p0 .nil)) J J<|rA J J<|rN<|tSR<|rM J J<|ARun.qv (q_neq J J) J<|rN<|ATodo.cond_d J (fun hc=>?_) (fun hc=>?_)
  · refine have h := iteT hc h; tSR<|rM J J<|rA J J<|rA J J<|rN<|ATodo.ret<|?_
    obtain rfl := Option.some.inj h
    exact ImpX.here ⟨_,.cons (.tmp _ _ J) (.cons (.tmp _ _ J) .nil),_,.nil,⟨J,J⟩⟩
  · refine have h := iteF hc h; tK<|ATodo.blk<|tR<|ARun.qv (av := I (1 : Int)) (QV.intE (by decide) (q_addw J J)) J<|rM J J<|rN<|ATodo.stop<|ImpX.here<|ARounds.next<|tSR<|ARun.qv (QV.dT (by decide) (q_lss J J)) J<|rN<|tS<|ATodo.cond_t J<|tK<|tS<|ATodo.block<|tSR<|ARun.qv (q_index_list J J J J J) J<|ARun.qv (q_load_rptr J J J) J<|rA J J<|rN<|tSR<|rM J J<|bndE h fun v10 e11 h=>t_callb0 hbe5 J J (tenant_view_rolesFault_c e11) (CoL.refl _) (.cons .p0 .nil) J J<|rA J J<|rN<|tSR<|rM J J<|ARun.qv (q_neq J J) J<|rN<|ATodo.cond_d J (fun hc=>?_) (fun hc=>?_)
    · refine have h := iteT hc h; tSR<|rM J J<|rA J J<|rA J J<|rN<|ATodo.ret<|?_
      obtain rfl := Option.some.inj h
      exact ImpX.here ⟨_,.cons (.tmp _ _ J) (.cons (.tmp _ _ J) .nil),_,.nil,⟨J,J⟩⟩
    · refine have h := iteF hc h; tK<|ATodo.blk<|tR<|ARun.qv (av := I (2 : Int)) (QV.intE (by decide) (q_addw J J)) J<|rM J J<|rN<|ATodo.stop<|ImpX.here<|ARounds.next<|tSR<|ARun.qv (QV.dT (by decide) (q_lss J J)) J<|rN<|tS<|ATodo.cond_t J<|tK<|tS<|ATodo.block<|tSR<|ARun.qv (q_index_list J J J J J) J<|ARun.qv (q_load_rptr J J J) J<|rA J J<|rN<|tSR<|rM J J<|bndE h fun v11 e12 h=>t_callb0 hbe7 J J (tenant_view_membersFault_c e12) (CoL.refl _) (.cons .p0 (.cons .p0 (.cons .p0 .nil))) J J<|rA J J<|rN<|tSR<|rM J J<|ARun.qv (q_neq J J) J<|rN<|ATodo.cond_d J (fun hc=>?_) (fun hc=>?_)
      · refine have h := iteT hc h; tSR<|rM J J<|rA J J<|rA J J<|rN<|ATodo.ret<|?_
        obtain rfl := Option.some.inj h
        exact ImpX.here ⟨_,.cons (.tmp _ _ J) (.cons (.tmp _ _ J) .nil),_,.nil,⟨J,J⟩⟩
      · refine have h := iteF hc h; tK<|ATodo.blk<|tR<|ARun.qv (av := I (3 : Int)) (QV.intE (by decide) (q_addw J J)) J<|rM J J<|rN<|ATodo.stop<|ImpX.here<|ARounds.next<|tSR<|ARun.qv (QV.dT (by decide) (q_lss J J)) J<|rN<|tS<|ATodo.cond_t J<|tK<|tS<|ATodo.block<|tSR<|ARun.qv (q_index_list J J J J J) J<|ARun.qv (q_load_rptr J J J) J<|rA J J<|rN<|tSR<|rM J J<|bndE h fun v12 e13 h=>t_callb0 hbe9 J J (tenant_view_sharesFault_c e13) (CoL.refl _) (.cons .p0 (.cons .p0 .nil)) J J<|rA J J<|rN<|tSR<|rM J J<|ARun.qv (q_neq J J) J<|rN<|ATodo.cond_d J (fun hc=>?_) (fun hc=>?_)
        · refine have h := iteT hc h; tSR<|rM J J<|rA J J<|rA J J<|rN<|ATodo.ret<|?_
          obtain rfl := Option.some.inj h
          exact ImpX.here ⟨_,.cons (.tmp _ _ J) (.cons (.tmp _ _ J) .nil),_,.nil,⟨J,J⟩⟩
        · refine have h := iteF hc h; tK<|ATodo.blk<|tR<|ARun.qv (av := I (4 : Int)) (QV.intE (by decide) (q_addw J J)) J<|rM J J<|rN<|ATodo.stop<|ImpX.here<|ARounds.next<|tSR<|ARun.qv (QV.dF (by decide) (q_lss J J)) J<|rN<|tS<|ATodo.cond_f J<|ATodo.exit J<|tSR<|rM J J<|rA J J<|rA J J<|rN<|ATodo.ret<|?_
          obtain rfl := Option.some.inj h
          exact ImpX.here ⟨_,.cons (.tmp _ _ J) (.cons (.tmp _ _ J) .nil),_,.cons .p0 (.cons .p0 (.cons .p0 (.cons .p0 (.cons .p0 (.cons .p0 .nil))))),⟨b3,b4,b5,b6,b7,b8,J,J⟩⟩

theorem tenant_CheckOrg_c {p0x0 : Org} {r : Int} (h : tenant_CheckOrg p0x0 = some r) : Pu Tryz.prog 14 [.agg [.list 2 (p0x0.Tenants.map Tenant.av),.list 2 (p0x0.Roles.map Role.av),.list 3 (p0x0.Members.map Member.av),.list 17 (p0x0.Shares.map Share.av)]] (I r) := by
  unfold tenant_CheckOrg at h
  refine ACall.bodyN Tryz.func14 J Tryz.ntmps14 Tryz.results14 J J ?_
  refine tSR<|n_box J J J J fun b1=>rA J J<|rN<|tSR<|ARun.qv (q_load_ptr_all J J .p0 J) J<|bndE h fun v2 e1 h=>optE h (fun e2 h=>?_) (fun x3 e2 h=>?_)
  · refine have cM5 := TM_none e2 (tenant_checked_c e1); t_call0 J cM5 (CoL.refl _) .nil J J<|rM J J<|rX J J J<|rX J J J<|rA J J<|rA J J<|rN<|tSR<|rM J J<|rA J J<|rN<|ATodo.ret<|?_
    obtain rfl := Option.some.inj h
    exact ImpX.here ⟨_,.cons (.tmp _ _ J) .nil,J⟩
  · refine have cM6 := TM_some e2 (tenant_checked_c e1); t_call6 J cM6 (CoL.refl _) .nil (fun _ _ _ _ _ _=>J) J fun b4 b5 b6 b7 b8 b9=>rM J J<|rX J J J<|rX J J J<|rA J J<|rA J J<|rN<|tSR<|rM J J<|rA J J<|rN<|ATodo.ret<|?_
    obtain rfl := Option.some.inj h
    exact ImpX.here ⟨_,.cons (.tmp _ _ J) .nil,J⟩

theorem tenant_view_covers_c [GI : GTab] {b_0 : Bk} {b_0x4 : Bk} {b_0x5 : Bk} {b_0x6 : Bk} {b_0x7 : Bk} {b_0x8 : Bk} {p0x0 : Tenant_view} {p1x0 : Str} {p2x0 : Str} {r : Bool × Tenant_view} (h : tenant_view_covers p0x0 p1x0 p2x0 = some r) : ACall Tryz.prog 78 [.ptr b_0 0,.str p1x0,.str p2x0] [(b_0,.cells [.list 2 (p0x0.Org.Tenants.map Tenant.av),.list 2 (p0x0.Org.Roles.map Role.av),.list 3 (p0x0.Org.Members.map Member.av),.list 17 (p0x0.Org.Shares.map Share.av),.mref b_0x4,.mref b_0x5,.mref b_0x6,.mref b_0x7,.mref b_0x8]),(b_0x5,.mp (p0x0.acts_.map (fun e=>(AV.str e.1,(encL 1 AV.str) e.2)))),(b_0x8,.mp (p0x0.wider_.map (fun e=>(Tenant_asks.av e.1,AV.bool e.2))))] (T2 (fun c_0x5 c_0x8=>[(b_0,.cells [.list 2 (r.2.Org.Tenants.map Tenant.av),.list 2 (r.2.Org.Roles.map Role.av),.list 3 (r.2.Org.Members.map Member.av),.list 17 (r.2.Org.Shares.map Share.av),.mref b_0x4,.mref c_0x5,.mref b_0x6,.mref b_0x7,.mref c_0x8]),(c_0x5,.mp (r.2.acts_.map (fun e=>(AV.str e.1,(encL 1 AV.str) e.2)))),(c_0x8,.mp (r.2.wider_.map (fun e=>(Tenant_asks.av e.1,AV.bool e.2))))]) (fun c_0x5 c_0x8=>.bool r.1)) := by
  unfold tenant_view_covers at h
  refine ACall.lessH ?_
  refine ACall.bodyN Tryz.func78 J Tryz.ntmps78 Tryz.results78 J J ?_
  refine tSR<|rA J J<|rN<|tSR<|rM J J<|ARun.qv (q_nilCheck_ptr J) J<|rF J J J<|rL J J .p0 J J<|rM J J<|rM J J<|ARun.qv (n_build J J J J J) J<|bndE h fun v1 e1 h=>ARun.qv (t_lookup2 (gk := Tenant_asks.av) (gv := AV.bool) (M := p0x0.wider_) (key := (⟨p1x0,p2x0⟩ : Tenant_asks)) (Z := false) J J .p2 J J J e1 J) J<|rM J J<|rX J J J<|rX J J J<|rA J J<|rA J J<|rN<|tS<|tSR<|rM J J<|ARun.qv (q_not J) J<|rN<|ATodo.cut (fun σ'=>∃ (l2 : List (Tenant_asks × Bool)) (c3 : Bool),tenant_view_covers_j1 p0x0 l2 c3 = some r ∧ σ' = ⟨44,[(7,.bool c3)],[(b_0,.cells [.list 2 (p0x0.Org.Tenants.map Tenant.av),.list 2 (p0x0.Org.Roles.map Role.av),.list 3 (p0x0.Org.Members.map Member.av),.list 17 (p0x0.Org.Shares.map Share.av),.mref b_0x4,.mref b_0x5,.mref b_0x6,.mref b_0x7,.mref b_0x8]),(b_0x5,.mp (p0x0.acts_.map (fun e=>(AV.str e.1,(encL 1 AV.str) e.2)))),(b_0x8,.mp (l2.map (fun e=>(Tenant_asks.av e.1,AV.bool e.2))))]⟩) ?_ ?_
  · refine ATodo.cond J (fun hc=>?_) (fun hc=>?_)
    · exact have h := iteT hc h; tS<|ATodo.regionM (id := 3) (A := [0,1,3,7,0,31,0,64,192,448,0,1984,4095,8191]) 14 mixed J (by kernel_rfl) (by kernel_rfl)<|AM.qv (q_move J) J<|AM.qv (q_nilCheck_ptr J) J<|AM.qv (n_field_ptr J J) J<|AM.qv (q_load_ptr J J .p0 J) J<|AM.qv (q_move J) J<|bndE h fun v4 e2 h=>AM.qv (t_lookupN (gk := AV.str) (gv := (encL 1 AV.str)) (M := p0x0.acts_) (key := p1x0) (Z := []) J J .p1 J J e2 J) J<|AM.qv (q_move J) J<|AM.qv (q_nilCheck_ptr J) J<|AM.qv (n_field_ptr J J) J<|AM.qv (q_load_ptr J J .p0 J) J<|AM.qv (q_move J) J<|bndE h fun v5 e3 h=>AM.qv (t_lookupN (gk := AV.str) (gv := (encL 1 AV.str)) (M := p0x0.acts_) (key := p2x0) (Z := []) J J .p1 J J e3 J) J<|bndE h fun v6 e4 h=>AM.callp J (tenant_allCovered_c e4) (CoL.refl _) J<|AM.qv (q_assign J) J<|AM.nil<|rN<|tR<|rM J J<|ARun.qv (q_nilCheck_ptr J) J<|rF J J J<|rL J J .p0 J J<|rM J J<|rM J J<|ARun.qv (n_build J J J J J) J<|rM J J<|t_mapUpdate (gk := Tenant_asks.av) (gv := AV.bool) (M := p0x0.wider_) (key := (⟨p1x0,p2x0⟩ : Tenant_asks)) (v := v6) J J J J .p2<|rN<|ATodo.stop<|ImpX.lq [0,0,0] ⟨mset p0x0.wider_ (⟨p1x0,p2x0⟩ : Tenant_asks) v6,v6,h,J⟩ J J
    · exact have h := iteFb hc h; tK<|ATodo.stop<|ImpX.lq [0,0,0] ⟨p0x0.wider_,v1.1,h,J⟩ J J
  · rintro σ' ⟨l2, c3, h, rfl⟩
    unfold tenant_view_covers_j1 at h
    refine tSR<|rM J J<|rA J J<|rN<|ATodo.ret<|?_
    obtain rfl := Option.some.inj h
    exact ImpX.here ⟨_,.cons (.tmp _ _ J) .nil,_,.cons .p0 (.cons .p0 (.cons .p0 .nil)),⟨b_0x5,b_0x8,J,J⟩⟩

theorem tenant_Spare_1x_c [GI : GTab] {b_2 : Bk} {b_3p : Bk} {b_3x4 : Bk} {b_3x5 : Bk} {b_3x6 : Bk} {b_3x7 : Bk} {b_3x8 : Bk} {p0x0 : Int} {p1x0 : Int} {p2x0 : Org} {p3x0 : Tenant_view} {r : Bool × Tenant_view} (h : tenant_Spare_1x p0x0 p1x0 p2x0 p3x0 = some r) : ACall Tryz.prog 76 [I p0x0,I p1x0,.ptr b_2 0,.rptr [.ptr b_3p 0]] [(b_2,.cells [.list 2 (p2x0.Tenants.map Tenant.av),.list 2 (p2x0.Roles.map Role.av),.list 3 (p2x0.Members.map Member.av),.list 17 (p2x0.Shares.map Share.av)]),(b_3p,.cells [.list 2 (p3x0.Org.Tenants.map Tenant.av),.list 2 (p3x0.Org.Roles.map Role.av),.list 3 (p3x0.Org.Members.map Member.av),.list 17 (p3x0.Org.Shares.map Share.av),.mref b_3x4,.mref b_3x5,.mref b_3x6,.mref b_3x7,.mref b_3x8]),(b_3x4,.mp (p3x0.parent_.map (fun e=>(AV.str e.1,AV.str e.2)))),(b_3x5,.mp (p3x0.acts_.map (fun e=>(AV.str e.1,(encL 1 AV.str) e.2)))),(b_3x8,.mp (p3x0.wider_.map (fun e=>(Tenant_asks.av e.1,AV.bool e.2))))] (T3 (fun c_3x4 c_3x5 c_3x8=>[(b_2,.cells [.list 2 (p2x0.Tenants.map Tenant.av),.list 2 (p2x0.Roles.map Role.av),.list 3 (p2x0.Members.map Member.av),.list 17 (p2x0.Shares.map Share.av)]),(b_3p,.cells [.list 2 (r.2.Org.Tenants.map Tenant.av),.list 2 (r.2.Org.Roles.map Role.av),.list 3 (r.2.Org.Members.map Member.av),.list 17 (r.2.Org.Shares.map Share.av),.mref c_3x4,.mref c_3x5,.mref b_3x6,.mref b_3x7,.mref c_3x8]),(c_3x4,.mp (r.2.parent_.map (fun e=>(AV.str e.1,AV.str e.2)))),(c_3x5,.mp (r.2.acts_.map (fun e=>(AV.str e.1,(encL 1 AV.str) e.2)))),(c_3x8,.mp (r.2.wider_.map (fun e=>(Tenant_asks.av e.1,AV.bool e.2))))]) (fun c_3x4 c_3x5 c_3x8=>.bool r.1)) := by
  unfold tenant_Spare_1x at h
  refine ACall.lessH ?_
  refine ACall.bodyN Tryz.func76 J Tryz.ntmps76 Tryz.results76 J J ?_
  refine tSR<|rA J J<|rN<|tS<|bndE h fun v1 e1 h=>bndE h fun v2 e2 h=>ATodo.regionT (id := 1) (A := [0,1,0,7,15,0,32,0,224,480,0,0,3103,8191]) (H0 := []) (HH := fun β=>[((β 11),.cells [.str [],.str [],.str []]),((β 10),.cells [.str v1.User,.str v1.Tenant,.str v1.Role]),(b_2,.cells [.list 2 (p2x0.Tenants.map Tenant.av),.list 2 (p2x0.Roles.map Role.av),.list 3 (p2x0.Members.map Member.av),.list 17 (p2x0.Shares.map Share.av)]),(b_3p,.cells [.list 2 (p3x0.Org.Tenants.map Tenant.av),.list 2 (p3x0.Org.Roles.map Role.av),.list 3 (p3x0.Org.Members.map Member.av),.list 17 (p3x0.Org.Shares.map Share.av),.mref b_3x4,.mref b_3x5,.mref b_3x6,.mref b_3x7,.mref b_3x8]),(b_3x4,.mp (p3x0.parent_.map (fun e=>(AV.str e.1,AV.str e.2)))),(b_3x5,.mp (p3x0.acts_.map (fun e=>(AV.str e.1,(encL 1 AV.str) e.2)))),(b_3x8,.mp (p3x0.wider_.map (fun e=>(Tenant_asks.av e.1,AV.bool e.2))))]) 13 mixed J (by kernel_rfl) (by kernel_rfl) [⟨some 10,some 12,[],fun b=>(b,.cells [.str [],.str [],.str []]),none⟩,⟨some 11,none,[],fun b=>(b,.cells [.str [],.str [],.str []]),none⟩,⟨some 12,none,[],fun b=>(b,.cells [.str v1.User,.str v1.Tenant,.str v1.Role]),some 10⟩] [10,11] J (by kernel_rfl) J .nil (fun _=>J)<|AT.am 10 J J<|AM.qv (n_field_ptr J J) J<|AM.qv (q_load_ptr J J .p0 J) J<|AM.qv (q_move J) J<|AM.qv (t_index J J J e1 J J) J<|AM.qv (q_load_rptr_agg J J J) J<|AM.qv (n_field_ptr J J) J<|AM.qv (q_load_ptr J J .p0 J) J<|AM.qv (q_move J) J<|AM.qv (t_index J J J e2 J J) J<|AM.qv (q_load_rptr_agg J J J) J<|AM.nil<|AT.runD (V := fun b=>.ptr b 0) (Ti := []) (Pi := fun b=>[(b,.cells [.str [],.str [],.str []])]) (fun _=>J) (fun _=>J) (fun _ _=>J) J (fun _=>J) J J J ?_ ?_
  · exact n_alloc J J J J fun b3=>ARun.nil ⟨b3,_,J,J⟩
  refine AT.runD (V := fun b=>.ptr b 0) (Ti := []) (Pi := fun b=>[(b,.cells [.str [],.str [],.str []])]) (fun _=>J) (fun _=>J) (fun _ _=>J) J (fun _=>J) J J J ?_ ?_
  · exact n_alloc J J J J fun b4=>ARun.nil ⟨b4,_,J,J⟩
  refine AT.runN (Ti := fun β=>[((β 10),.cells [.str [],.str [],.str []])]) (Pi := fun β=>[((β 10),.cells [.str v1.User,.str v1.Tenant,.str v1.Role])]) (fun _=>J) (fun _=>J) (fun _ _=>J) (fun _=>J) (fun _=>J) (fun β=>?_) ?_
  · generalize β 10 = b3
    exact n_store_ptr J J J J .p0 J J<|ARun.nil ⟨_,J⟩
  refine AT.nilN (fun _=>J) fun β=>?_
  generalize β 10 = b3
  generalize β 11 = b4
  clear β
  refine n_store_ptr J J J J .p0 J J<|rN<|tS<|ATodo.cut (fun σ'=>∃ (b9 : Bk) (b11 : Bk) (l5 : List Tenant) (l6 : List Role) (l7 : List Member) (l8 : List Share) (l10 : List (Str × (List Str))) (l12 : List (Tenant_asks × Bool)) (c13 : Bool),tenant_Spare_1x_j1 p3x0 l5 l6 l7 l8 l10 l12 c13 = some r ∧ σ' = ⟨41,[(6,.bool c13)],[(b_2,.cells [.list 2 (p2x0.Tenants.map Tenant.av),.list 2 (p2x0.Roles.map Role.av),.list 3 (p2x0.Members.map Member.av),.list 17 (p2x0.Shares.map Share.av)]),(b_3p,.cells [.list 2 (l5.map Tenant.av),.list 2 (l6.map Role.av),.list 3 (l7.map Member.av),.list 17 (l8.map Share.av),.mref b_3x4,.mref b9,.mref b_3x6,.mref b_3x7,.mref b11]),(b_3x4,.mp (p3x0.parent_.map (fun e=>(AV.str e.1,AV.str e.2)))),(b9,.mp (l10.map (fun e=>(AV.str e.1,(encL 1 AV.str) e.2)))),(b11,.mp (l12.map (fun e=>(Tenant_asks.av e.1,AV.bool e.2))))]⟩) ?_ ?_
  · refine Classical.byCases (p := v1.User = v2.User) (fun hqe3=>?_) (fun hqe3=>?_)
    · replace h := iteT hqe3 h
      refine bndE h fun v14 e4 h=>bndE h fun v16 e5 h=>Classical.byCases (p := v16 = true) (fun hqe6=>?_) (fun hqe6=>?_)
      · replace h := iteT hqe6 h
        refine ATodo.regionT (id := 2) (A := [0,1,0,4,15,31,63,63,191,511,63,1087,4095,8191,16383,32767,32767,98303,32767,294911,1048575,2097151,4194303]) (H0 := [(b_3p,.cells [.list 2 (p3x0.Org.Tenants.map Tenant.av),.list 2 (p3x0.Org.Roles.map Role.av),.list 3 (p3x0.Org.Members.map Member.av),.list 17 (p3x0.Org.Shares.map Share.av),.mref b_3x4,.mref b_3x5,.mref b_3x6,.mref b_3x7,.mref b_3x8]),(b_3x4,.mp (p3x0.parent_.map (fun e=>(AV.str e.1,AV.str e.2)))),(b_3x5,.mp (p3x0.acts_.map (fun e=>(AV.str e.1,(encL 1 AV.str) e.2)))),(b_3x8,.mp (p3x0.wider_.map (fun e=>(Tenant_asks.av e.1,AV.bool e.2))))]) (HH := fun β=>[(b_3p,.cells [.list 2 (p3x0.Org.Tenants.map Tenant.av),.list 2 (p3x0.Org.Roles.map Role.av),.list 3 (p3x0.Org.Members.map Member.av),.list 17 (p3x0.Org.Shares.map Share.av),.mref b_3x4,.mref b_3x5,.mref b_3x6,.mref b_3x7,.mref b_3x8]),(b_3x4,.mp (p3x0.parent_.map (fun e=>(AV.str e.1,AV.str e.2)))),(b_3x5,.mp (p3x0.acts_.map (fun e=>(AV.str e.1,(encL 1 AV.str) e.2)))),(b_3x8,.mp (p3x0.wider_.map (fun e=>(Tenant_asks.av e.1,AV.bool e.2)))),((β 12),.arr 1 (v14.map AV.str)),(b4,.cells [.str v2.User,.str v2.Tenant,.str v2.Role]),(b3,.cells [.str v1.User,.str v1.Tenant,.str v1.Role]),(b_2,.cells [.list 2 (p2x0.Tenants.map Tenant.av),.list 2 (p2x0.Roles.map Role.av),.list 3 (p2x0.Members.map Member.av),.list 17 (p2x0.Shares.map Share.av)])]) 20 mixed J (by kernel_rfl) (by kernel_rfl) [⟨none,some 9,[],fun _=>(b_3p,.cells [.list 2 (p3x0.Org.Tenants.map Tenant.av),.list 2 (p3x0.Org.Roles.map Role.av),.list 3 (p3x0.Org.Members.map Member.av),.list 17 (p3x0.Org.Shares.map Share.av),.mref b_3x4,.mref b_3x5,.mref b_3x6,.mref b_3x7,.mref b_3x8]),none⟩,⟨none,some 9,[],fun _=>(b_3x4,.mp (p3x0.parent_.map (fun e=>(AV.str e.1,AV.str e.2)))),none⟩,⟨none,some 9,[],fun _=>(b_3x5,.mp (p3x0.acts_.map (fun e=>(AV.str e.1,(encL 1 AV.str) e.2)))),none⟩,⟨none,some 9,[],fun _=>(b_3x8,.mp (p3x0.wider_.map (fun e=>(Tenant_asks.av e.1,AV.bool e.2)))),none⟩,⟨some 9,none,[],fun b=>(b_3p,.cells [.list 2 (p3x0.Org.Tenants.map Tenant.av),.list 2 (p3x0.Org.Roles.map Role.av),.list 3 (p3x0.Org.Members.map Member.av),.list 17 (p3x0.Org.Shares.map Share.av),.mref b_3x4,.mref b_3x5,.mref b_3x6,.mref b_3x7,.mref b_3x8]),none⟩,⟨some 9,none,[],fun b=>(b_3x4,.mp (p3x0.parent_.map (fun e=>(AV.str e.1,AV.str e.2)))),none⟩,⟨some 9,some 12,[],fun b=>(b,.arr 1 (v14.map AV.str)),none⟩,⟨some 9,none,[],fun b=>(b_3x5,.mp (p3x0.acts_.map (fun e=>(AV.str e.1,(encL 1 AV.str) e.2)))),none⟩,⟨some 9,none,[],fun b=>(b_3x8,.mp (p3x0.wider_.map (fun e=>(Tenant_asks.av e.1,AV.bool e.2)))),none⟩,⟨some 12,none,[],fun b=>(b,.arr 1 (v14.map AV.str)),none⟩] [9,12] J (by kernel_rfl) J (.cons .p3 (.cons .p3 (.cons .p3 (.cons .p3 .nil)))) (fun _=>J)<|AT.am 9 J J<|AM.qv (n_field_ptr J J) J<|AM.qv (q_load_ptr J J .p1 J) J<|AM.qv (n_field_ptr J J) J<|AM.qv (q_load_ptr J J .p0 J) J<|AM.qv (q_seq J J) J<|AM.qv (QV.dT hqe3 (q_move J)) J<|AM.guard_yes J J J<|AM.qv (q_load_rptr J J J) J<|AM.guard_yes J J J<|AM.qv (n_field_ptr J J) J<|AM.guard_yes J J J<|AM.qv (q_load_ptr J J .p1 J) J<|AM.nil<|AT.guard_yes J J J<|AT.runD (V := fun b=>.sl 1 b 0 v14.length) (Ti := [(b_3p,.cells [.list 2 (p3x0.Org.Tenants.map Tenant.av),.list 2 (p3x0.Org.Roles.map Role.av),.list 3 (p3x0.Org.Members.map Member.av),.list 17 (p3x0.Org.Shares.map Share.av),.mref b_3x4,.mref b_3x5,.mref b_3x6,.mref b_3x7,.mref b_3x8]),(b_3x4,.mp (p3x0.parent_.map (fun e=>(AV.str e.1,AV.str e.2)))),(b_3x5,.mp (p3x0.acts_.map (fun e=>(AV.str e.1,(encL 1 AV.str) e.2)))),(b_3x8,.mp (p3x0.wider_.map (fun e=>(Tenant_asks.av e.1,AV.bool e.2))))]) (Pi := fun b=>[(b_3p,.cells [.list 2 (p3x0.Org.Tenants.map Tenant.av),.list 2 (p3x0.Org.Roles.map Role.av),.list 3 (p3x0.Org.Members.map Member.av),.list 17 (p3x0.Org.Shares.map Share.av),.mref b_3x4,.mref b_3x5,.mref b_3x6,.mref b_3x7,.mref b_3x8]),(b_3x4,.mp (p3x0.parent_.map (fun e=>(AV.str e.1,AV.str e.2)))),(b,.arr 1 (v14.map AV.str)),(b_3x5,.mp (p3x0.acts_.map (fun e=>(AV.str e.1,(encL 1 AV.str) e.2)))),(b_3x8,.mp (p3x0.wider_.map (fun e=>(Tenant_asks.av e.1,AV.bool e.2))))]) (fun _=>J) (fun _=>J) (fun _ _=>J) J (fun _=>J) J J J ?_ ?_
        · exact t_call1 J (tenant_view_path_c e4) (CoL.refl _) (.cons .p0 (.cons .p0 .nil)) (fun _=>J) J fun b15=>ARun.nil ⟨b15,_,J,J⟩
        refine AT.am 2 J J<|AM.guard_yes J J J<|AM.qv (n_field_ptr J J) J<|AM.guard_yes J J J<|AM.qv (q_load_ptr J J .p0 J) J<|AM.nil<|AT.guard_yes J J J<|AT.runES (av := .bool v16) (Ti := fun β=>[((β 9),.arr 1 (v14.map AV.str))]) (Pi := fun b=>[(b,.arr 1 (v14.map AV.str))]) (fun _=>J) (fun _=>J) (fun _ _=>J) (fun _=>J) (fun _=>J) J (fun β=>?_) ?_
        · generalize β 9 = b15
          exact r_callpB J (slices_Contains_string_string_c e5) (.cons (CoB.arrT .p0) (.cons (.co (.refl _)) .nil)) J J<|ARun.nil ⟨b15,_,J,J⟩
        refine AT.am 7 J J<|AM.qv (q_pick_t J J) J<|AM.qv (QV.bT hqe6 (q_move J)) J<|AM.guard_yes J J J<|AM.qv (q_load_rptr J J J) J<|AM.guard_yes J J J<|AM.qv (n_field_ptr J J) J<|AM.guard_yes J J J<|AM.qv (q_load_ptr J J .p0 J) J<|AM.guard_yes J J J<|AM.qv (n_field_ptr J J) J<|AM.guard_yes J J J<|AM.qv (q_load_ptr J J .p1 J) J<|AM.nil<|AT.nilN (fun _=>J) fun β=>?_
        generalize β 9 = b15
        generalize β 12 = b17
        clear β
        exact rY J J J<|bndE h fun v18 e7 h=>t_call2 J (tenant_view_covers_c e7) (CoL.refl _) (.cons .p0 (.cons .p1 (.cons .p1 .nil))) (fun _ _=>J) J fun b19 b20=>rT J J J<|rA J J<|rN<|ATodo.stop<|ImpX.lq [7,0,2,0,0] ⟨b19,b20,v18.2.Org.Tenants,v18.2.Org.Roles,v18.2.Org.Members,v18.2.Org.Shares,v18.2.acts_,v18.2.wider_,v18.1,h,J⟩ J J
      · replace h := iteF hqe6 h
        refine ATodo.regionT (id := 2) (A := [0,1,0,4,15,31,63,63,191,511,63,1087,4095,8191,16383,32767,32767,98303,32767,294911,1048575,2097151,4194303]) (H0 := [(b_3p,.cells [.list 2 (p3x0.Org.Tenants.map Tenant.av),.list 2 (p3x0.Org.Roles.map Role.av),.list 3 (p3x0.Org.Members.map Member.av),.list 17 (p3x0.Org.Shares.map Share.av),.mref b_3x4,.mref b_3x5,.mref b_3x6,.mref b_3x7,.mref b_3x8]),(b_3x4,.mp (p3x0.parent_.map (fun e=>(AV.str e.1,AV.str e.2)))),(b_3x5,.mp (p3x0.acts_.map (fun e=>(AV.str e.1,(encL 1 AV.str) e.2)))),(b_3x8,.mp (p3x0.wider_.map (fun e=>(Tenant_asks.av e.1,AV.bool e.2))))]) (HH := fun β=>[(b_3p,.cells [.list 2 (p3x0.Org.Tenants.map Tenant.av),.list 2 (p3x0.Org.Roles.map Role.av),.list 3 (p3x0.Org.Members.map Member.av),.list 17 (p3x0.Org.Shares.map Share.av),.mref b_3x4,.mref b_3x5,.mref b_3x6,.mref b_3x7,.mref b_3x8]),(b_3x4,.mp (p3x0.parent_.map (fun e=>(AV.str e.1,AV.str e.2)))),(b_3x5,.mp (p3x0.acts_.map (fun e=>(AV.str e.1,(encL 1 AV.str) e.2)))),(b_3x8,.mp (p3x0.wider_.map (fun e=>(Tenant_asks.av e.1,AV.bool e.2)))),((β 12),.arr 1 (v14.map AV.str)),(b4,.cells [.str v2.User,.str v2.Tenant,.str v2.Role]),(b3,.cells [.str v1.User,.str v1.Tenant,.str v1.Role]),(b_2,.cells [.list 2 (p2x0.Tenants.map Tenant.av),.list 2 (p2x0.Roles.map Role.av),.list 3 (p2x0.Members.map Member.av),.list 17 (p2x0.Shares.map Share.av)])]) 20 mixed J (by kernel_rfl) (by kernel_rfl) [⟨none,some 9,[],fun _=>(b_3p,.cells [.list 2 (p3x0.Org.Tenants.map Tenant.av),.list 2 (p3x0.Org.Roles.map Role.av),.list 3 (p3x0.Org.Members.map Member.av),.list 17 (p3x0.Org.Shares.map Share.av),.mref b_3x4,.mref b_3x5,.mref b_3x6,.mref b_3x7,.mref b_3x8]),none⟩,⟨none,some 9,[],fun _=>(b_3x4,.mp (p3x0.parent_.map (fun e=>(AV.str e.1,AV.str e.2)))),none⟩,⟨none,some 9,[],fun _=>(b_3x5,.mp (p3x0.acts_.map (fun e=>(AV.str e.1,(encL 1 AV.str) e.2)))),none⟩,⟨none,some 9,[],fun _=>(b_3x8,.mp (p3x0.wider_.map (fun e=>(Tenant_asks.av e.1,AV.bool e.2)))),none⟩,⟨some 9,none,[],fun b=>(b_3p,.cells [.list 2 (p3x0.Org.Tenants.map Tenant.av),.list 2 (p3x0.Org.Roles.map Role.av),.list 3 (p3x0.Org.Members.map Member.av),.list 17 (p3x0.Org.Shares.map Share.av),.mref b_3x4,.mref b_3x5,.mref b_3x6,.mref b_3x7,.mref b_3x8]),none⟩,⟨some 9,none,[],fun b=>(b_3x4,.mp (p3x0.parent_.map (fun e=>(AV.str e.1,AV.str e.2)))),none⟩,⟨some 9,some 12,[],fun b=>(b,.arr 1 (v14.map AV.str)),none⟩,⟨some 9,none,[],fun b=>(b_3x5,.mp (p3x0.acts_.map (fun e=>(AV.str e.1,(encL 1 AV.str) e.2)))),none⟩,⟨some 9,none,[],fun b=>(b_3x8,.mp (p3x0.wider_.map (fun e=>(Tenant_asks.av e.1,AV.bool e.2)))),none⟩,⟨some 12,none,[],fun b=>(b,.arr 1 (v14.map AV.str)),none⟩] [9,12] J (by kernel_rfl) J (.cons .p3 (.cons .p3 (.cons .p3 (.cons .p3 .nil)))) (fun _=>J)<|AT.am 9 J J<|AM.qv (n_field_ptr J J) J<|AM.qv (q_load_ptr J J .p1 J) J<|AM.qv (n_field_ptr J J) J<|AM.qv (q_load_ptr J J .p0 J) J<|AM.qv (q_seq J J) J<|AM.qv (QV.dT hqe3 (q_move J)) J<|AM.guard_yes J J J<|AM.qv (q_load_rptr J J J) J<|AM.guard_yes J J J<|AM.qv (n_field_ptr J J) J<|AM.guard_yes J J J<|AM.qv (q_load_ptr J J .p1 J) J<|AM.nil<|AT.guard_yes J J J<|AT.runD (V := fun b=>.sl 1 b 0 v14.length) (Ti := [(b_3p,.cells [.list 2 (p3x0.Org.Tenants.map Tenant.av),.list 2 (p3x0.Org.Roles.map Role.av),.list 3 (p3x0.Org.Members.map Member.av),.list 17 (p3x0.Org.Shares.map Share.av),.mref b_3x4,.mref b_3x5,.mref b_3x6,.mref b_3x7,.mref b_3x8]),(b_3x4,.mp (p3x0.parent_.map (fun e=>(AV.str e.1,AV.str e.2)))),(b_3x5,.mp (p3x0.acts_.map (fun e=>(AV.str e.1,(encL 1 AV.str) e.2)))),(b_3x8,.mp (p3x0.wider_.map (fun e=>(Tenant_asks.av e.1,AV.bool e.2))))]) (Pi := fun b=>[(b_3p,.cells [.list 2 (p3x0.Org.Tenants.map Tenant.av),.list 2 (p3x0.Org.Roles.map Role.av),.list 3 (p3x0.Org.Members.map Member.av),.list 17 (p3x0.Org.Shares.map Share.av),.mref b_3x4,.mref b_3x5,.mref b_3x6,.mref b_3x7,.mref b_3x8]),(b_3x4,.mp (p3x0.parent_.map (fun e=>(AV.str e.1,AV.str e.2)))),(b,.arr 1 (v14.map AV.str)),(b_3x5,.mp (p3x0.acts_.map (fun e=>(AV.str e.1,(encL 1 AV.str) e.2)))),(b_3x8,.mp (p3x0.wider_.map (fun e=>(Tenant_asks.av e.1,AV.bool e.2))))]) (fun _=>J) (fun _=>J) (fun _ _=>J) J (fun _=>J) J J J ?_ ?_
        · exact t_call1 J (tenant_view_path_c e4) (CoL.refl _) (.cons .p0 (.cons .p0 .nil)) (fun _=>J) J fun b15=>ARun.nil ⟨b15,_,J,J⟩
        refine AT.am 2 J J<|AM.guard_yes J J J<|AM.qv (n_field_ptr J J) J<|AM.guard_yes J J J<|AM.qv (q_load_ptr J J .p0 J) J<|AM.nil<|AT.guard_yes J J J<|AT.runES (av := .bool v16) (Ti := fun β=>[((β 9),.arr 1 (v14.map AV.str))]) (Pi := fun b=>[(b,.arr 1 (v14.map AV.str))]) (fun _=>J) (fun _=>J) (fun _ _=>J) (fun _=>J) (fun _=>J) J (fun β=>?_) ?_
        · generalize β 9 = b15
          exact r_callpB J (slices_Contains_string_string_c e5) (.cons (CoB.arrT .p0) (.cons (.co (.refl _)) .nil)) J J<|ARun.nil ⟨b15,_,J,J⟩
        refine AT.am 7 J J<|AM.qv (q_pick_t J J) J<|AM.qv (QV.bF hqe6 (q_move J)) J<|AM.guard_no J J J J<|AM.guard_no J J J J<|AM.guard_no J J J J<|AM.guard_no J J J J<|AM.guard_no J J J J<|AM.nil<|AT.nilN (fun _=>J) fun β=>?_
        generalize β 9 = b15
        generalize β 12 = b21
        clear β
        exact rG J J J J<|rE J J J<|rA J J<|rN<|ATodo.stop<|ImpX.lq [7,0,0,0,0] ⟨b_3x5,b_3x8,p3x0.Org.Tenants,p3x0.Org.Roles,p3x0.Org.Members,p3x0.Org.Shares,p3x0.acts_,p3x0.wider_,false,h,J⟩ J J
    · replace h := iteF hqe3 h
      exact ATodo.regionT (id := 2) (A := [0,1,0,4,15,31,63,63,191,511,63,1087,4095,8191,16383,32767,32767,98303,32767,294911,1048575,2097151,4194303]) (H0 := []) (HH := fun β=>[(b4,.cells [.str v2.User,.str v2.Tenant,.str v2.Role]),(b3,.cells [.str v1.User,.str v1.Tenant,.str v1.Role]),(b_2,.cells [.list 2 (p2x0.Tenants.map Tenant.av),.list 2 (p2x0.Roles.map Role.av),.list 3 (p2x0.Members.map Member.av),.list 17 (p2x0.Shares.map Share.av)]),(b_3p,.cells [.list 2 (p3x0.Org.Tenants.map Tenant.av),.list 2 (p3x0.Org.Roles.map Role.av),.list 3 (p3x0.Org.Members.map Member.av),.list 17 (p3x0.Org.Shares.map Share.av),.mref b_3x4,.mref b_3x5,.mref b_3x6,.mref b_3x7,.mref b_3x8]),(b_3x4,.mp (p3x0.parent_.map (fun e=>(AV.str e.1,AV.str e.2)))),(b_3x5,.mp (p3x0.acts_.map (fun e=>(AV.str e.1,(encL 1 AV.str) e.2)))),(b_3x8,.mp (p3x0.wider_.map (fun e=>(Tenant_asks.av e.1,AV.bool e.2))))]) 20 mixed J (by kernel_rfl) (by kernel_rfl) [] [] J (by kernel_rfl) J .nil (fun _=>J)<|AT.am 20 J J<|AM.qv (n_field_ptr J J) J<|AM.qv (q_load_ptr J J .p1 J) J<|AM.qv (n_field_ptr J J) J<|AM.qv (q_load_ptr J J .p0 J) J<|AM.qv (q_seq J J) J<|AM.qv (QV.dF hqe3 (q_move J)) J<|AM.guard_no J J J J<|AM.guard_no J J J J<|AM.guard_no J J J J<|AM.guard_no J J J J<|AM.guard_no J J J J<|AM.guard_no J J J J<|AM.guard_no J J J J<|AM.qv (q_pick_f J J) J<|AM.qv (q_move J) J<|AM.guard_no J J J J<|AM.guard_no J J J J<|AM.guard_no J J J J<|AM.guard_no J J J J<|AM.guard_no J J J J<|AM.nil<|AT.nilN (fun _=>J) fun β=>rG J J J J<|rE J J J<|rA J J<|rN<|ATodo.stop<|ImpX.lq [2,2,2,2,2] ⟨b_3x5,b_3x8,p3x0.Org.Tenants,p3x0.Org.Roles,p3x0.Org.Members,p3x0.Org.Shares,p3x0.acts_,p3x0.wider_,false,h,J⟩ J J
  · rintro σ' ⟨b9, b11, l5, l6, l7, l8, l10, l12, c13, h, rfl⟩
    unfold tenant_Spare_1x_j1 at h
    refine ATodo.ret<|?_
    obtain rfl := Option.some.inj h
    exact ImpX.here ⟨_,.cons (.tmp _ _ J) .nil,_,.cons .p0 (.cons .p0 (.cons .p0 (.cons .p0 (.cons .p0 .nil)))),⟨b_3x4,b9,b11,J,J⟩⟩

theorem tenant_Spare_c {p0x0 : Org} {r : (List Int) × Int} (h : tenant_Spare p0x0 = some r) : ACall Tryz.prog 15 [.agg [.list 2 (p0x0.Tenants.map Tenant.av),.list 2 (p0x0.Roles.map Role.av),.list 3 (p0x0.Members.map Member.av),.list 17 (p0x0.Shares.map Share.av)]] [] (T1 (fun d_0=>[(d_0,.arr 1 (r.1.map I))]) (fun d_0=>.tup [.sl 1 d_0 0 r.1.length,I r.2])) := by
  unfold tenant_Spare at h
  refine ACall.lessH ?_
  refine ACall.bodyN Tryz.func15 J Tryz.ntmps15 Tryz.results15 J J ?_
  refine tSR<|n_box J J J J fun b1=>rA J J<|rA J J<|rN<|tSR<|ARun.qv (q_load_ptr_all J J .p0 J) J<|bndE h fun v2 e1 h=>optE h (fun e2 h=>?_) (fun x3 e2 h=>?_)
  · refine have cM5 := TM_none e2 (tenant_checked_c e1); t_call0 J cM5 (CoL.refl _) .nil J J<|rM J J<|rX J J J<|rX J J J<|n_alloc J J J J fun b4=>n_store_ptr J J J J .p0 J J<|rA J J<|rN<|tS<|tSR<|rM J J<|ARun.qv (q_neq J J) J<|rN<|ATodo.cond_d J (fun hc=>?_) (fun hc=>?_)
    · refine have h := iteT hc h; tSR<|rM J J<|rA J J<|rA J J<|rN<|ATodo.ret<|?_
      obtain rfl := Option.some.inj h
      exact ImpX.arr (s := 2) 1 J fun b5=>ImpX.here ⟨_,.cons (.tmp _ _ J) (.cons (.tmp _ _ J) .nil),_,.cons .p0 .nil,⟨b5,J,J⟩⟩
    · refine have h := iteF hc h; tK<|tSR<|?_
      cases h
  · refine have cM6 := TM_some e2 (tenant_checked_c e1); t_call6 J cM6 (CoL.refl _) .nil (fun _ _ _ _ _ _=>J) J fun b6 b7 b8 b9 b10 b11=>rM J J<|rX J J J<|rX J J J<|n_alloc J J J J fun b12=>n_store_ptr J J J J .p0 J J<|rA J J<|rN<|tS<|tSR<|rM J J<|ARun.qv (q_neq J J) J<|rN<|ATodo.cond_d J (fun hc=>?_) (fun hc=>?_)
    · refine have h := iteT hc h; tSR<|rM J J<|rA J J<|rA J J<|rN<|ATodo.ret<|?_
      obtain rfl := Option.some.inj h
      exact ImpX.arr (s := 2) 1 J fun b13=>ImpX.here ⟨_,.cons (.tmp _ _ J) (.cons (.tmp _ _ J) .nil),_,.cons .p0 .nil,⟨b13,J,J⟩⟩
    · refine have h := iteF hc h; tK<|tSR<|ARun.ghost<|ImpX.frzPtr (s := 4) J .p0<|ImpX.here<|ARun.qv (q_makeFunc J) J<|rA J J<|rN<|tSR<|rA J J<|rN<|tS<|tSR<|rF J J J<|rL J J .p6 J J<|ARun.qv (t_len J) J<|rM J J<|rN<|ATodo.block<|ATodo.loopI (fun x : (List Tenant) × (List Role) × (List Member) × (List Share) × (List (Str × Str)) × (List (Str × (List Str))) × (List (Tenant_asks × Bool)) × (List Int) × Int=>tenant_Spare_b1 p0x0 x3 x.1 x.2.1 x.2.2.1 x.2.2.2.1 x.2.2.2.2.1 x.2.2.2.2.2.1 x.2.2.2.2.2.2.1 x.2.2.2.2.2.2.2.1 x.2.2.2.2.2.2.2.2) (fun x σ'=>∃ (b31 : Bk) (b33 : Bk) (b35 : Bk) (b37 : Bk),σ' = ⟨59,[(1,.ptr b1 0),(6,.func (.func 76) [.ptr b1 0,.rptr [.ptr b6 0]]),(7,.sl 1 b37 0 x.2.2.2.2.2.2.2.1.length),(21,I (p0x0.Members.length : Int)),(22,I x.2.2.2.2.2.2.2.2)],[(b1,.cells [.list 2 (p0x0.Tenants.map Tenant.av),.list 2 (p0x0.Roles.map Role.av),.list 3 (p0x0.Members.map Member.av),.list 17 (p0x0.Shares.map Share.av)]),(b6,.cells [.list 2 (x.1.map Tenant.av),.list 2 (x.2.1.map Role.av),.list 3 (x.2.2.1.map Member.av),.list 17 (x.2.2.2.1.map Share.av),.mref b31,.mref b33,.mref b9,.mref b10,.mref b35]),(b31,.mp (x.2.2.2.2.1.map (fun e=>(AV.str e.1,AV.str e.2)))),(b33,.mp (x.2.2.2.2.2.1.map (fun e=>(AV.str e.1,(encL 1 AV.str) e.2)))),(b9,.mp (x3.at_.map (fun e=>(AV.str e.1,(encL 1 I) e.2)))),(b10,.mp (x3.found_.map (fun e=>(Tenant_asks.av e.1,(encL 1 I) e.2)))),(b35,.mp (x.2.2.2.2.2.2.1.map (fun e=>(Tenant_asks.av e.1,AV.bool e.2)))),(b37,.arr 1 (x.2.2.2.2.2.2.2.1.map I))]⟩) h ?_ ?_
      · exact ImpX.arr (s := 7) 1 J fun b40=>ImpX.lq [7,1,1,1,1,1,1,0] ⟨b7,b8,b11,b40,J⟩ J J
      · intro x z1 σ' J1 hmk h hJ1 hA1
        obtain ⟨l27, l28, l29, l30, l32, l34, l36, l38, n39⟩ := x
        obtain ⟨b31, b33, b35, b37, rfl⟩ := hmk
        replace h : tenant_Spare_b1 p0x0 x3 l27 l28 l29 l30 l32 l34 l36 l38 n39 = some z1 := h
        unfold tenant_Spare_b1 at h
        refine tSR<|ARun.qv (q_lss J J) J<|rN<|tS<|ATodo.cond_d J (fun hc=>?_) (fun hc=>?_)
        · refine have h := iteT hc h; tK<|tS<|ATodo.block<|tSR<|rM J J<|rA J J<|rN<|tSR<|rF J J J<|rL J J .p0 J J<|ARun.qv (t_len J) J<|rM J J<|rN<|ATodo.cut (fun σ'=>∃ (b45 : Bk) (b47 : Bk) (b49 : Bk) (b51 : Bk) (l41 : List Tenant) (l42 : List Role) (l43 : List Member) (l44 : List Share) (l46 : List (Str × Str)) (l48 : List (Str × (List Str))) (l50 : List (Tenant_asks × Bool)) (l52 : List Int),tenant_Spare_j1 n39 l41 l42 l43 l44 l46 l48 l50 l52 = some z1 ∧ σ' = ⟨59,[(1,.ptr b1 0),(6,.func (.func 76) [.ptr b1 0,.rptr [.ptr b6 0]]),(7,.sl 1 b51 0 l52.length),(21,I (p0x0.Members.length : Int)),(22,I n39)],[(b1,.cells [.list 2 (p0x0.Tenants.map Tenant.av),.list 2 (p0x0.Roles.map Role.av),.list 3 (p0x0.Members.map Member.av),.list 17 (p0x0.Shares.map Share.av)]),(b6,.cells [.list 2 (l41.map Tenant.av),.list 2 (l42.map Role.av),.list 3 (l43.map Member.av),.list 17 (l44.map Share.av),.mref b45,.mref b47,.mref b9,.mref b10,.mref b49]),(b45,.mp (l46.map (fun e=>(AV.str e.1,AV.str e.2)))),(b47,.mp (l48.map (fun e=>(AV.str e.1,(encL 1 AV.str) e.2)))),(b9,.mp (x3.at_.map (fun e=>(AV.str e.1,(encL 1 I) e.2)))),(b10,.mp (x3.found_.map (fun e=>(Tenant_asks.av e.1,(encL 1 I) e.2)))),(b49,.mp (l50.map (fun e=>(Tenant_asks.av e.1,AV.bool e.2)))),(b51,.arr 1 (l52.map I))]⟩) ?_ ?_
          · refine ATodo.block<|ATodo.loopI (fun x : (List Tenant) × (List Role) × (List Member) × (List Share) × (List (Str × Str)) × (List (Str × (List Str))) × (List (Tenant_asks × Bool)) × Int=>tenant_Spare_b2 p0x0 x3 l38 n39 x.1 x.2.1 x.2.2.1 x.2.2.2.1 x.2.2.2.2.1 x.2.2.2.2.2.1 x.2.2.2.2.2.2.1 x.2.2.2.2.2.2.2) (fun x σ'=>∃ (b68 : Bk) (b70 : Bk) (b72 : Bk),σ' = ⟨59,[(1,.ptr b1 0),(6,.func (.func 76) [.ptr b1 0,.rptr [.ptr b6 0]]),(7,.sl 1 b37 0 l38.length),(8,I n39),(21,I (p0x0.Members.length : Int)),(22,I n39),(27,I (p0x0.Members.length : Int)),(28,I x.2.2.2.2.2.2.2)],[(b1,.cells [.list 2 (p0x0.Tenants.map Tenant.av),.list 2 (p0x0.Roles.map Role.av),.list 3 (p0x0.Members.map Member.av),.list 17 (p0x0.Shares.map Share.av)]),(b6,.cells [.list 2 (x.1.map Tenant.av),.list 2 (x.2.1.map Role.av),.list 3 (x.2.2.1.map Member.av),.list 17 (x.2.2.2.1.map Share.av),.mref b68,.mref b70,.mref b9,.mref b10,.mref b72]),(b68,.mp (x.2.2.2.2.1.map (fun e=>(AV.str e.1,AV.str e.2)))),(b70,.mp (x.2.2.2.2.2.1.map (fun e=>(AV.str e.1,(encL 1 AV.str) e.2)))),(b9,.mp (x3.at_.map (fun e=>(AV.str e.1,(encL 1 I) e.2)))),(b10,.mp (x3.found_.map (fun e=>(Tenant_asks.av e.1,(encL 1 I) e.2)))),(b72,.mp (x.2.2.2.2.2.2.1.map (fun e=>(Tenant_asks.av e.1,AV.bool e.2)))),(b37,.arr 1 (l38.map I))]⟩) h ?_ ?_
            · exact ImpX.lq [0,0,0,0,0,0,0,0] ⟨b31,b33,b35,J⟩ J J
            · intro x z2 σ' J2 hmk h hJ2 hA2
              obtain ⟨l64, l65, l66, l67, l69, l71, l73, n74⟩ := x
              obtain ⟨b68, b70, b72, rfl⟩ := hmk
              replace h : tenant_Spare_b2 p0x0 x3 l38 n39 l64 l65 l66 l67 l69 l71 l73 n74 = some z2 := h
              unfold tenant_Spare_b2 at h
              refine tSR<|ARun.qv (q_lss J J) J<|rN<|tS<|ATodo.cond_d J (fun hc=>?_) (fun hc=>?_)
              · refine have h := iteT hc h; tK<|tS<|ATodo.block<|tSR<|rM J J<|rA J J<|rN<|tS<|ATodo.cut (fun σ'=>∃ (b79 : Bk) (b81 : Bk) (b83 : Bk) (l75 : List Tenant) (l76 : List Role) (l77 : List Member) (l78 : List Share) (l80 : List (Str × Str)) (l82 : List (Str × (List Str))) (l84 : List (Tenant_asks × Bool)) (c85 : Bool),tenant_Spare_j2 l38 n39 n74 l75 l76 l77 l78 l80 l82 l84 c85 = some z2 ∧ σ' = ⟨59,[(1,.ptr b1 0),(6,.func (.func 76) [.ptr b1 0,.rptr [.ptr b6 0]]),(7,.sl 1 b37 0 l38.length),(8,I n39),(21,I (p0x0.Members.length : Int)),(22,I n39),(27,I (p0x0.Members.length : Int)),(28,I n74),(51,.bool c85)],[(b1,.cells [.list 2 (p0x0.Tenants.map Tenant.av),.list 2 (p0x0.Roles.map Role.av),.list 3 (p0x0.Members.map Member.av),.list 17 (p0x0.Shares.map Share.av)]),(b6,.cells [.list 2 (l75.map Tenant.av),.list 2 (l76.map Role.av),.list 3 (l77.map Member.av),.list 17 (l78.map Share.av),.mref b79,.mref b81,.mref b9,.mref b10,.mref b83]),(b79,.mp (l80.map (fun e=>(AV.str e.1,AV.str e.2)))),(b81,.mp (l82.map (fun e=>(AV.str e.1,(encL 1 AV.str) e.2)))),(b9,.mp (x3.at_.map (fun e=>(AV.str e.1,(encL 1 I) e.2)))),(b10,.mp (x3.found_.map (fun e=>(Tenant_asks.av e.1,(encL 1 I) e.2)))),(b83,.mp (l84.map (fun e=>(Tenant_asks.av e.1,AV.bool e.2)))),(b37,.arr 1 (l38.map I))]⟩) ?_ ?_
                · refine tR<|rM J J<|rM J J<|ARun.qv (q_neq J J) J<|rM J J<|ARun.guard_dt J J J (fun hc=>?_) (fun hc=>?_)
                  · refine have h := iteT hc h; rM J J<|rY J J J<|rM J J<|rY J J J<|rM J J<|rY J J J<|bndE h fun v86 e3 h=>t_callv3 J J J (tenant_Spare_1x_c e3) (CoL.refl _) (.cons .p0 (.cons .p0 (.cons .p0 (.cons .p0 (.cons .p2 .nil))))) (fun _ _ _=>J) J fun b87 b88 b89=>rT J J J<|rM J J<|ARun.guard J J J (fun hc=>?_) (fun hc=>?_)
                    · refine have h := iteT hc h; rM J J<|rY J J J<|rM J J<|rY J J J<|ARun.qv (q_lss J J) J<|rY J J J<|rM J J<|ARun.guard_dt J J J (fun hc=>?_) (fun hc=>?_)
                      · exact have h := iteT hc h; rM J J<|rY J J J<|rM J J<|rY J J J<|rM J J<|rY J J J<|bndE h fun v90 e4 h=>t_callv3 J J J (tenant_Spare_1x_c e4) (CoL.refl _) (.cons .p0 (.cons .p0 (.cons .p0 (.cons .p0 (.cons .p0 .nil))))) (fun _ _ _=>J) J fun b91 b92 b93=>rY J J J<|rT J J J<|rY J J J<|ARun.qv (q_not J) J<|rT J J J<|rN<|ATodo.stop<|ImpX.lq [0,0,0,0,1,1,0,0] ⟨b91,b92,b93,v90.2.Org.Tenants,v90.2.Org.Roles,v90.2.Org.Members,v90.2.Org.Shares,v90.2.parent_,v90.2.acts_,v90.2.wider_,!v90.1,h,J⟩ J J
                      · exact have h := iteF hc h; rG J J J J<|rG J J J J<|rG J J J J<|rY J J J<|rE J J J<|rY J J J<|ARun.qv (q_not J) J<|rT J J J<|rN<|ATodo.stop<|ImpX.lq [0,0,0,0,1,1,0,0] ⟨b87,b88,b89,v86.2.Org.Tenants,v86.2.Org.Roles,v86.2.Org.Members,v86.2.Org.Shares,v86.2.parent_,v86.2.acts_,v86.2.wider_,!false,h,J⟩ J J
                    · exact have h := iteFb hc h; rG J J J J<|rG J J J J<|rG J J J J<|ARun.guard_und J J J<|ARun.guard_und J J J<|ARun.guard_und J J J<|ARun.guard_und J J J<|rG J J J J<|rG J J J J<|rE J J J<|rN<|ATodo.stop<|ImpX.lq [0,0,0,0,1,1,0,0] ⟨b87,b88,b89,v86.2.Org.Tenants,v86.2.Org.Roles,v86.2.Org.Members,v86.2.Org.Shares,v86.2.parent_,v86.2.acts_,v86.2.wider_,false,h,J⟩ J J
                  · exact have h := iteF hc h; rG J J J J<|rG J J J J<|rG J J J J<|rE J J J<|rM J J<|rG J J J J<|rG J J J J<|rG J J J J<|rG J J J J<|ARun.guard_und J J J<|ARun.guard_und J J J<|ARun.guard_und J J J<|ARun.guard_und J J J<|rG J J J J<|rG J J J J<|rE J J J<|rN<|ATodo.stop<|ImpX.lq [0,0,0,0,0,0,0,0] ⟨b68,b70,b72,l64,l65,l66,l67,l69,l71,l73,false,h,J⟩ J J
                · rintro σ' ⟨b79, b81, b83, l75, l76, l77, l78, l80, l82, l84, c85, h, rfl⟩
                  unfold tenant_Spare_j2 at h
                  refine ATodo.cond J (fun hc=>?_) (fun hc=>?_)
                  · exact have h := iteT hc h; tSR<|rM J J<|rM J J<|n_buildSliceL (xs := ([n39] : List Int).map I) J J J J J J<|bndE h fun l94 e5 h=>t_append (g := I) J J J J J J J J (.list _) e5 (fun _=>.p7) J fun b95=>rA J J<|rN<|ATodo.exit J<|have h := outL h hA2; ATodo.stop<|ImpX.lq [0,0,0,0,0,0,0,0] ⟨b79,b81,b83,b95,l75,l76,l77,l78,l80,l82,l84,l94,h,J⟩ J J
                  · refine have h := iteFb hc h; tK<|ATodo.blk<|tR<|ARun.qv (q_addw J J) J<|rM J J<|rN<|ATodo.stop<|?_
                    obtain rfl := Option.some.inj h
                    exact hJ2 _ _ J<|ImpX.lq [0,0,0,0,0,0,0,0] ⟨b79,b81,b83,J⟩ J J
              · exact have h := iteF hc h; ATodo.exit J<|have h := outL h hA2; ATodo.stop<|ImpX.lq [0,0,0,0,0,0,0,0] ⟨b68,b70,b72,b37,l64,l65,l66,l67,l69,l71,l73,l38,h,J⟩ J J
          · rintro σ' ⟨b45, b47, b49, b51, l41, l42, l43, l44, l46, l48, l50, l52, h, rfl⟩
            unfold tenant_Spare_j1 at h
            refine ATodo.blk<|tR<|ARun.qv (q_addw J J) J<|rM J J<|rN<|ATodo.stop<|?_
            obtain rfl := Option.some.inj h
            exact hJ1 _ _ J<|ImpX.lq [0,0,0,0,0,0,0,0] ⟨b45,b47,b49,b51,J⟩ J J
        · refine have h := iteF hc h; ATodo.exit J<|have h := outL h hA1; tSR<|rM J J<|rA J J<|rA J J<|rN<|ATodo.ret<|?_
          obtain rfl := Option.some.inj h
          exact ImpX.here ⟨_,.cons (.tmp _ _ J) (.cons (.tmp _ _ J) .nil),_,.cons .p7 .nil,⟨b37,J,J⟩⟩

theorem Q_SpareOf_1x_c [GI : GTab] {p0x0 : Int} {p1x0 : Int} {p2x0 : Org} {r : Bool} (h : Q_SpareOf_1x p0x0 p1x0 p2x0 = some r) : Pu Tryz.prog 79 [I p0x0,I p1x0,.rptr [.list 2 (p2x0.Tenants.map Tenant.av),.list 2 (p2x0.Roles.map Role.av),.list 3 (p2x0.Members.map Member.av),.list 17 (p2x0.Shares.map Share.av)]] (.bool r) := by
  unfold Q_SpareOf_1x at h
  refine ACall.bodyN Tryz.func79 J Tryz.ntmps79 Tryz.results79 J J ?_
  refine tSR<|rA J J<|rN<|tS<|bndE h fun v1 e1 h=>bndE h fun v2 e2 h=>ATodo.regionT (id := 1) (A := [0,1,0,7,15,0,32,0,224,480,0,0,3103,8191]) (H0 := []) (HH := fun β=>[((β 11),.cells [.str [],.str [],.str []]),((β 10),.cells [.str v1.User,.str v1.Tenant,.str v1.Role])]) 13 mixed J (by kernel_rfl) (by kernel_rfl) [⟨some 10,some 12,[],fun b=>(b,.cells [.str [],.str [],.str []]),none⟩,⟨some 11,none,[],fun b=>(b,.cells [.str [],.str [],.str []]),none⟩,⟨some 12,none,[],fun b=>(b,.cells [.str v1.User,.str v1.Tenant,.str v1.Role]),some 10⟩] [10,11] J (by kernel_rfl) J .nil (fun _=>J)<|AT.am 10 J J<|AM.qv (n_field_rptr J J) J<|AM.qv (q_load_rptr J J J) J<|AM.qv (q_move J) J<|AM.qv (t_index J J J e1 J J) J<|AM.qv (q_load_rptr_agg J J J) J<|AM.qv (n_field_rptr J J) J<|AM.qv (q_load_rptr J J J) J<|AM.qv (q_move J) J<|AM.qv (t_index J J J e2 J J) J<|AM.qv (q_load_rptr_agg J J J) J<|AM.nil<|AT.runD (V := fun b=>.ptr b 0) (Ti := []) (Pi := fun b=>[(b,.cells [.str [],.str [],.str []])]) (fun _=>J) (fun _=>J) (fun _ _=>J) J (fun _=>J) J J J ?_ ?_
  · exact n_alloc J J J J fun b3=>ARun.nil ⟨b3,_,J,J⟩
  refine AT.runD (V := fun b=>.ptr b 0) (Ti := []) (Pi := fun b=>[(b,.cells [.str [],.str [],.str []])]) (fun _=>J) (fun _=>J) (fun _ _=>J) J (fun _=>J) J J J ?_ ?_
  · exact n_alloc J J J J fun b4=>ARun.nil ⟨b4,_,J,J⟩
  refine AT.runN (Ti := fun β=>[((β 10),.cells [.str [],.str [],.str []])]) (Pi := fun β=>[((β 10),.cells [.str v1.User,.str v1.Tenant,.str v1.Role])]) (fun _=>J) (fun _=>J) (fun _ _=>J) (fun _=>J) (fun _=>J) (fun β=>?_) ?_
  · generalize β 10 = b3
    exact n_store_ptr J J J J .p0 J J<|ARun.nil ⟨_,J⟩
  refine AT.nilN (fun _=>J) fun β=>?_
  generalize β 10 = b3
  generalize β 11 = b4
  clear β
  refine n_store_ptr J J J J .p0 J J<|rN<|tS<|ATodo.cut (fun σ'=>∃ (c5 : Bool),Q_SpareOf_1x_j1 c5 = some r ∧ σ' = ⟨58,[(5,.bool c5)],[]⟩) ?_ ?_
  · refine ATodo.regionM (id := 2) (A := [0,0,3,7,15,31,15,79,255,511,1023,2047,2047,6143,16383,2047,34815,131071,262143,524287,1048575,2097151,1048575,1048575,9437183,30408703,67108863,134217727,268435455,1048575,537919487,1048575,1048575,4296015871,15096348671,33886830591,68246568959,136966045695,274877906943,549755813887,1099511627775]) 41 mixed J (by kernel_rfl) (by kernel_rfl)<|AM.qv (q_move J) J<|AM.qv (q_move J) J<|AM.qv (q_neq J J) J<|AM.qv (q_move J) J<|AM.guard_dt J J J (fun hc=>?_) (fun hc=>?_)
    · refine have h := iteT hc h; AM.qv (n_field_ptr J J) J<|AM.guard_yes J J J<|AM.qv (q_load_ptr J J .p1 J) J<|AM.guard_yes J J J<|AM.qv (n_field_ptr J J) J<|AM.guard_yes J J J<|AM.qv (q_load_ptr J J .p0 J) J<|AM.guard_yes J J J<|AM.qv (q_seq J J) J<|AM.qv (q_pick_t J J) J<|AM.qv (q_move J) J<|AM.guard_dt J J J (fun hc=>?_) (fun hc=>?_)
      · refine have h := iteT hc h; AM.qv (q_load_rptr_agg J J J) J<|AM.guard_yes J J J<|AM.qv (n_field_ptr J J) J<|AM.guard_yes J J J<|AM.qv (q_load_ptr J J .p0 J) J<|AM.guard_yes J J J<|bndE h fun v6 e3 h=>AM.callp J (Q_pathOf_c e3) (CoL.refl _) J<|AM.guard_yes J J J<|AM.qv (n_field_ptr J J) J<|AM.guard_yes J J J<|AM.qv (q_load_ptr J J .p1 J) J<|AM.guard_yes J J J<|bndE h fun v7 e4 h=>AM.callp J (slices_Contains_string_string_c e4) (CoL.refl _) J<|AM.qv (q_pick_t J J) J<|AM.qv (q_move J) J<|AM.guard J J J (fun hc=>?_) (fun hc=>?_)
        · exact have h := iteT hc h; AM.qv (n_field_rptr J J) J<|AM.guard_yes J J J<|AM.qv (q_load_rptr J J J) J<|AM.guard_yes J J J<|AM.qv (q_load_rptr_agg J J J) J<|AM.guard_yes J J J<|AM.qv (n_field_ptr J J) J<|AM.guard_yes J J J<|AM.qv (q_load_ptr J J .p1 J) J<|AM.guard_yes J J J<|bndE h fun v8 e5 h=>AM.callp J (Q_roleAt_c e5) (CoL.refl _) J<|AM.guard_yes J J J<|bndE h fun v9 e6 h=>AM.qv (t_index J J J e6 J J) J<|AM.guard_yes J J J<|AM.qv (n_field_rptr J J) J<|AM.guard_yes J J J<|AM.qv (q_load_rptr J J J) J<|AM.guard_yes J J J<|AM.qv (n_field_rptr J J) J<|AM.guard_yes J J J<|AM.qv (q_load_rptr J J J) J<|AM.guard_yes J J J<|AM.qv (q_load_rptr_agg J J J) J<|AM.guard_yes J J J<|AM.qv (n_field_ptr J J) J<|AM.guard_yes J J J<|AM.qv (q_load_ptr J J .p0 J) J<|AM.guard_yes J J J<|bndE h fun v10 e7 h=>AM.callp J (Q_roleAt_c e7) (CoL.refl _) J<|AM.guard_yes J J J<|bndE h fun v11 e8 h=>AM.qv (t_index J J J e8 J J) J<|AM.guard_yes J J J<|AM.qv (n_field_rptr J J) J<|AM.guard_yes J J J<|AM.qv (q_load_rptr J J J) J<|AM.guard_yes J J J<|bndE h fun v12 e9 h=>AM.callp J (Q_CoversAll_c e9) (CoL.refl _) J<|AM.qv (q_pick_t J J) J<|AM.qv (q_assign J) J<|AM.nil<|rN<|ATodo.stop<|ImpX.lq [] ⟨v12,h,J⟩ J J
        · exact have h := iteFb hc h; AM.guard_no J J J J<|AM.guard_no J J J J<|AM.guard_no J J J J<|AM.guard_no J J J J<|AM.guard_no J J J J<|AM.guard_no J J J J<|AM.guard_no J J J J<|AM.guard_no J J J J<|AM.guard_no J J J J<|AM.guard_no J J J J<|AM.guard_no J J J J<|AM.guard_no J J J J<|AM.guard_no J J J J<|AM.guard_no J J J J<|AM.guard_no J J J J<|AM.guard_no J J J J<|AM.guard_no J J J J<|AM.guard_no J J J J<|AM.qv (q_pick_f J J) J<|AM.qv (q_assign J) J<|AM.nil<|rN<|ATodo.stop<|ImpX.lq [] ⟨false,h,J⟩ J J
      · exact have h := iteF hc h; AM.guard_no J J J J<|AM.guard_no J J J J<|AM.guard_no J J J J<|AM.guard_no J J J J<|AM.guard_no J J J J<|AM.guard_no J J J J<|AM.qv (q_pick_f J J) J<|AM.qv (q_move J) J<|AM.guard_no J J J J<|AM.guard_no J J J J<|AM.guard_no J J J J<|AM.guard_no J J J J<|AM.guard_no J J J J<|AM.guard_no J J J J<|AM.guard_no J J J J<|AM.guard_no J J J J<|AM.guard_no J J J J<|AM.guard_no J J J J<|AM.guard_no J J J J<|AM.guard_no J J J J<|AM.guard_no J J J J<|AM.guard_no J J J J<|AM.guard_no J J J J<|AM.guard_no J J J J<|AM.guard_no J J J J<|AM.guard_no J J J J<|AM.guard_no J J J J<|AM.qv (q_pick_f J J) J<|AM.qv (q_assign J) J<|AM.nil<|rN<|ATodo.stop<|ImpX.lq [] ⟨false,h,J⟩ J J
    · exact have h := iteF hc h; AM.guard_no J J J J<|AM.guard_no J J J J<|AM.guard_no J J J J<|AM.guard_no J J J J<|AM.qv (q_pick_f J J) J<|AM.qv (q_move J) J<|AM.guard_no J J J J<|AM.guard_no J J J J<|AM.guard_no J J J J<|AM.guard_no J J J J<|AM.guard_no J J J J<|AM.guard_no J J J J<|AM.guard_no J J J J<|AM.qv (q_pick_f J J) J<|AM.qv (q_move J) J<|AM.guard_no J J J J<|AM.guard_no J J J J<|AM.guard_no J J J J<|AM.guard_no J J J J<|AM.guard_no J J J J<|AM.guard_no J J J J<|AM.guard_no J J J J<|AM.guard_no J J J J<|AM.guard_no J J J J<|AM.guard_no J J J J<|AM.guard_no J J J J<|AM.guard_no J J J J<|AM.guard_no J J J J<|AM.guard_no J J J J<|AM.guard_no J J J J<|AM.guard_no J J J J<|AM.guard_no J J J J<|AM.guard_no J J J J<|AM.guard_no J J J J<|AM.qv (q_pick_f J J) J<|AM.qv (q_assign J) J<|AM.nil<|rN<|ATodo.stop<|ImpX.lq [] ⟨false,h,J⟩ J J
  · rintro σ' ⟨c5, h, rfl⟩
    unfold Q_SpareOf_1x_j1 at h
    refine ATodo.ret<|?_
    obtain rfl := Option.some.inj h
    exact ImpX.here ⟨_,.cons (.tmp _ _ J) .nil,J⟩

theorem Q_SpareOf_c [GI : GTab] {p0x0 : Org} {r : (List Int)} (h : Q_SpareOf p0x0 = some r) : ACall Tryz.prog 17 [.agg [.list 2 (p0x0.Tenants.map Tenant.av),.list 2 (p0x0.Roles.map Role.av),.list 3 (p0x0.Members.map Member.av),.list 17 (p0x0.Shares.map Share.av)]] [] (T1 (fun d_0=>[(d_0,.arr 1 (r.map I))]) (fun d_0=>.sl 1 d_0 0 r.length)) := by
  unfold Q_SpareOf at h
  refine ACall.lessH ?_
  refine ACall.bodyN Tryz.func17 J Tryz.ntmps17 Tryz.results17 J J ?_
  refine tSR<|n_box J J J J fun b1=>rA J J<|rN<|tSR<|ARun.qv (q_makeFunc J) J<|rA J J<|rN<|tSR<|rA J J<|rN<|tS<|tSR<|rF J J J<|rL J J .p0 J J<|ARun.qv (t_len J) J<|rM J J<|rN<|ATodo.block<|ATodo.loopI (fun x : (List Int) × Int=>Q_SpareOf_b1 p0x0 x.1 x.2) (fun x σ'=>∃ (b5 : Bk),σ' = ⟨48,[(1,.ptr b1 0),(3,.func (.func 79) [.ptr b1 0]),(4,.sl 1 b5 0 x.1.length),(11,I (p0x0.Members.length : Int)),(12,I x.2)],[(b1,.cells [.list 2 (p0x0.Tenants.map Tenant.av),.list 2 (p0x0.Roles.map Role.av),.list 3 (p0x0.Members.map Member.av),.list 17 (p0x0.Shares.map Share.av)]),(b5,.arr 1 (x.1.map I))]⟩) h ?_ ?_
  · exact ImpX.arr (s := 4) 1 J fun b8=>ImpX.lq [1,0] ⟨b8,J⟩ J J
  · intro x z1 σ' J1 hmk h hJ1 hA1
    obtain ⟨l6, n7⟩ := x
    obtain ⟨b5, rfl⟩ := hmk
    replace h : Q_SpareOf_b1 p0x0 l6 n7 = some z1 := h
    unfold Q_SpareOf_b1 at h
    refine tSR<|ARun.qv (q_lss J J) J<|rN<|tS<|ATodo.cond_d J (fun hc=>?_) (fun hc=>?_)
    · refine have h := iteT hc h; tK<|tS<|ATodo.block<|tSR<|rM J J<|rA J J<|rN<|tSR<|rA J J<|rN<|tS<|tSR<|rF J J J<|rL J J .p0 J J<|ARun.qv (t_len J) J<|rM J J<|rN<|ATodo.block<|ATodo.loopI (fun x : Bool × Int=>Q_SpareOf_b2 p0x0 l6 n7 x.1 x.2) (fun x σ'=>σ' = ⟨48,[(1,.ptr b1 0),(3,.func (.func 79) [.ptr b1 0]),(4,.sl 1 b5 0 l6.length),(5,I n7),(6,.bool x.1),(11,I (p0x0.Members.length : Int)),(12,I n7),(17,I (p0x0.Members.length : Int)),(18,I x.2)],[(b1,.cells [.list 2 (p0x0.Tenants.map Tenant.av),.list 2 (p0x0.Roles.map Role.av),.list 3 (p0x0.Members.map Member.av),.list 17 (p0x0.Shares.map Share.av)]),(b5,.arr 1 (l6.map I))]⟩) h ?_ ?_
      · exact ImpX.lq [0,0] J J J
      · intro x z2 σ' J2 hmk h hJ2 hA2
        obtain ⟨c11, n12⟩ := x
        obtain rfl := hmk
        replace h : Q_SpareOf_b2 p0x0 l6 n7 c11 n12 = some z2 := h
        unfold Q_SpareOf_b2 at h
        refine tSR<|ARun.qv (q_lss J J) J<|rN<|tS<|ATodo.cond_d J (fun hc=>?_) (fun hc=>?_)
        · refine have h := iteT hc h; tK<|tS<|ATodo.block<|tSR<|rM J J<|rA J J<|rN<|ATodo.cut (fun σ'=>∃ (c13 : Bool),Q_SpareOf_j1 n12 c13 = some z2 ∧ σ' = ⟨48,[(1,.ptr b1 0),(3,.func (.func 79) [.ptr b1 0]),(4,.sl 1 b5 0 l6.length),(5,I n7),(6,.bool c13),(11,I (p0x0.Members.length : Int)),(12,I n7),(17,I (p0x0.Members.length : Int)),(18,I n12)],[(b1,.cells [.list 2 (p0x0.Tenants.map Tenant.av),.list 2 (p0x0.Roles.map Role.av),.list 3 (p0x0.Members.map Member.av),.list 17 (p0x0.Shares.map Share.av)]),(b5,.arr 1 (l6.map I))]⟩) ?_ ?_
          · refine tR<|rM J J<|rM J J<|ARun.guard J J J (fun hc=>?_) (fun hc=>?_)
            · refine have h := iteFb hc h; rM J J<|rY J J J<|rM J J<|rY J J J<|rM J J<|rY J J J<|bndE h fun v14 e1 h=>r_callvpB J J (Q_SpareOf_1x_c e1) (.cons (.co (.refl _)) (.cons (.co (.refl _)) (.cons (.boxL _ _ _ .p0 (.cons (.co (.refl _)) (.cons (.co (.refl _)) (.cons (.co (.refl _)) (.cons (.co (.refl _)) .nil))))) .nil))) J J<|rY J J J<|rM J J<|ARun.guard J J J (fun hc=>?_) (fun hc=>?_)
              · refine have h := iteT hc h; rM J J<|rY J J J<|rM J J<|rY J J J<|rM J J<|rY J J J<|bndE h fun v15 e2 h=>r_callvpB J J (Q_SpareOf_1x_c e2) (.cons (.co (.refl _)) (.cons (.co (.refl _)) (.cons (.boxL _ _ _ .p0 (.cons (.co (.refl _)) (.cons (.co (.refl _)) (.cons (.co (.refl _)) (.cons (.co (.refl _)) .nil))))) .nil))) J J<|rY J J J<|ARun.qv (q_not J) J<|rY J J J<|rM J J<|ARun.guard J J J (fun hc=>?_) (fun hc=>?_)
                · rw [orFb hc] at h
                  exact rM J J<|rY J J J<|rM J J<|rY J J J<|ARun.qv (q_lss J J) J<|rY J J J<|rE J J J<|rY J J J<|rT J J J<|rE J J J<|rA J J<|rN<|ATodo.stop<|ImpX.lq [0,0] ⟨decide (n12 < n7),h,J⟩ J J
                · rw [orTb hc] at h
                  exact rG J J J J<|rG J J J J<|rY J J J<|rT J J J<|rY J J J<|rT J J J<|rE J J J<|rA J J<|rN<|ATodo.stop<|ImpX.lq [0,0] ⟨true,h,J⟩ J J
              · exact have h := iteFb hc h; rG J J J J<|rG J J J J<|rG J J J J<|rG J J J J<|rG J J J J<|ARun.guard_und J J J<|ARun.guard_und J J J<|ARun.guard_und J J J<|rG J J J J<|rY J J J<|rE J J J<|rE J J J<|rA J J<|rN<|ATodo.stop<|ImpX.lq [0,0] ⟨false,h,J⟩ J J
            · exact have h := iteT hc h; rG J J J J<|rG J J J J<|rG J J J J<|rG J J J J<|ARun.guard_und J J J<|ARun.guard_und J J J<|ARun.guard_und J J J<|ARun.guard_und J J J<|ARun.guard_und J J J<|ARun.guard_und J J J<|ARun.guard_und J J J<|ARun.guard_und J J J<|ARun.guard_und J J J<|ARun.guard_und J J J<|rG J J J J<|rT J J J<|rA J J<|rN<|ATodo.stop<|ImpX.lq [0,0] ⟨true,h,J⟩ J J
          · rintro σ' ⟨c13, h, rfl⟩
            unfold Q_SpareOf_j1 at h
            refine ATodo.blk<|tR<|ARun.qv (q_addw J J) J<|rM J J<|rN<|ATodo.stop<|?_
            obtain rfl := Option.some.inj h
            exact hJ2 _ _ J<|ImpX.lq [0,0] J J J
        · refine have h := iteF hc h; ATodo.exit J<|have h := outL h hA2; ?_
          unfold Q_SpareOf_k3 at h
          refine tSR<|rM J J<|rN<|ATodo.cut (fun σ'=>∃ (b16 : Bk) (l17 : List Int),Q_SpareOf_j2 n7 l17 = some z1 ∧ σ' = ⟨48,[(1,.ptr b1 0),(3,.func (.func 79) [.ptr b1 0]),(4,.sl 1 b16 0 l17.length),(11,I (p0x0.Members.length : Int)),(12,I n7)],[(b1,.cells [.list 2 (p0x0.Tenants.map Tenant.av),.list 2 (p0x0.Roles.map Role.av),.list 3 (p0x0.Members.map Member.av),.list 17 (p0x0.Shares.map Share.av)]),(b16,.arr 1 (l17.map I))]⟩) ?_ ?_
          · refine ATodo.cond J (fun hc=>?_) (fun hc=>?_)
            · exact have h := iteT hc h; tR<|rM J J<|rM J J<|n_buildSliceL (xs := ([n7] : List Int).map I) J J J J J J<|bndE h fun l18 e3 h=>t_append (g := I) J J J J J J J J (.list _) e3 (fun _=>.p1) J fun b19=>rA J J<|rN<|ATodo.stop<|ImpX.lq [0,0] ⟨b19,l18,h,J⟩ J J
            · exact have h := iteFb hc h; tK<|ATodo.stop<|ImpX.lq [0,0] ⟨b5,l6,h,J⟩ J J
          · rintro σ' ⟨b16, l17, h, rfl⟩
            unfold Q_SpareOf_j2 at h
            refine ATodo.blk<|tR<|ARun.qv (q_addw J J) J<|rM J J<|rN<|ATodo.stop<|?_
            obtain rfl := Option.some.inj h
            exact hJ1 _ _ J<|ImpX.lq [0,0] ⟨b16,J⟩ J J
    · refine have h := iteF hc h; ATodo.exit J<|have h := outL h hA1; tSR<|rM J J<|rA J J<|rN<|ATodo.ret<|?_
      obtain rfl := Option.some.inj h
      exact ImpX.here ⟨_,.cons (.tmp _ _ J) .nil,_,.cons .p1 .nil,⟨b5,J,J⟩⟩

theorem slices_Equal_int_int_c [GI : GTab] {p0x0 : List Int} {p1x0 : List Int} {r : Bool} (h : slices_Equal_int_int p0x0 p1x0 = some r) : Pu Tryz.prog 16 [.list 1 (p0x0.map I),.list 1 (p1x0.map I)] (.bool r) := by
  unfold slices_Equal_int_int at h
  refine ACall.bodyN Tryz.func16 J Tryz.ntmps16 Tryz.results16 J J ?_
  refine tSR<|rA J J<|rN<|tS<|tSR<|rM J J<|ARun.qv (t_len J) J<|rM J J<|ARun.qv (t_len J) J<|ARun.qv (q_neq J J) J<|rN<|ATodo.cond_d J (fun hc=>?_) (fun hc=>?_)
  · refine have h := iteT hc h; tSR<|rA J J<|rN<|ATodo.ret<|?_
    obtain rfl := Option.some.inj h
    exact ImpX.here ⟨_,.cons (.tmp _ _ J) .nil,J⟩
  · refine have h := iteF hc h; tK<|tS<|tSR<|rM J J<|ARun.qv (t_len J) J<|rM J J<|rN<|ATodo.block<|ATodo.loopI (fun x : Int=>slices_Equal_int_int_b1 p0x0 p1x0 x) (fun x σ'=>σ' = ⟨26,[(0,.list 1 (p0x0.map I)),(1,.list 1 (p1x0.map I)),(12,I (p0x0.length : Int)),(13,I x)],[]⟩) h ?_ ?_
    · exact ImpX.lq [] J J J
    · intro n2 z1 σ' J1 hmk h hJ1 hA1
      obtain rfl := hmk
      replace h : slices_Equal_int_int_b1 p0x0 p1x0 n2 = some z1 := h
      unfold slices_Equal_int_int_b1 at h
      refine tSR<|ARun.qv (q_lss J J) J<|rN<|tS<|ATodo.cond_d J (fun hc=>?_) (fun hc=>?_)
      · refine have h := iteT hc h; tK<|tS<|ATodo.block<|tSR<|rM J J<|rA J J<|rN<|tS<|ATodo.regionM (id := 6) (A := [0,0,3,7,0,0,48,112,255]) 9 mixed J (by kernel_rfl) (by kernel_rfl)<|AM.qv (q_move J) J<|AM.qv (q_move J) J<|bndE h fun v3 e1 h=>AM.qv (t_index J J J e1 J J) J<|AM.qv (q_load_rptr J J J) J<|AM.qv (q_move J) J<|AM.qv (q_move J) J<|bndE h fun v4 e2 h=>AM.qv (t_index J J J e2 J J) J<|AM.qv (q_load_rptr J J J) J<|AM.qv (q_neq J J) J<|AM.nil<|rN<|ATodo.cond_d J (fun hc=>?_) (fun hc=>?_)
        · refine have h := iteT hc h; tSR<|rA J J<|rN<|ATodo.ret<|have h := outL h hA1; ?_
          obtain rfl := Option.some.inj h
          exact ImpX.here ⟨_,.cons (.tmp _ _ J) .nil,J⟩
        · refine have h := iteF hc h; tK<|ATodo.blk<|tR<|ARun.qv (q_addw J J) J<|rM J J<|rN<|ATodo.stop<|?_
          obtain rfl := Option.some.inj h
          exact hJ1 _ _ J<|ImpX.lq [] J J J
      · refine have h := iteF hc h; ATodo.exit J<|have h := outL h hA1; tSR<|rA J J<|rN<|ATodo.ret<|?_
        obtain rfl := Option.some.inj h
        exact ImpX.here ⟨_,.cons (.tmp _ _ J) .nil,J⟩

theorem tenant_Path_c {p0x0 : Org} {p1x0 : Str} {r : (List Str) × Int} (h : tenant_Path p0x0 p1x0 = some r) : ACall Tryz.prog 18 [.agg [.list 2 (p0x0.Tenants.map Tenant.av),.list 2 (p0x0.Roles.map Role.av),.list 3 (p0x0.Members.map Member.av),.list 17 (p0x0.Shares.map Share.av)],.str p1x0] [] (T1 (fun d_0=>[(d_0,.arr 1 (r.1.map AV.str))]) (fun d_0=>.tup [.sl 1 d_0 0 r.1.length,I r.2])) := by
  unfold tenant_Path at h
  refine ACall.lessH ?_
  refine ACall.bodyN Tryz.func18 J Tryz.ntmps18 Tryz.results18 J J ?_
  refine tSR<|n_box J J J J fun b1=>rA J J<|rA J J<|rN<|tSR<|ARun.qv (q_load_ptr_all J J .p0 J) J<|bndE h fun v2 e1 h=>optE h (fun e2 h=>?_) (fun x3 e2 h=>?_)
  · refine have cM5 := TM_none e2 (tenant_checked_c e1); t_call0 J cM5 (CoL.refl _) .nil J J<|rM J J<|rX J J J<|rX J J J<|rA J J<|rA J J<|rN<|tS<|tSR<|rM J J<|ARun.qv (q_neq J J) J<|rN<|ATodo.cond_d J (fun hc=>?_) (fun hc=>?_)
    · refine have h := iteT hc h; tSR<|rM J J<|rA J J<|rA J J<|rN<|ATodo.ret<|?_
      obtain rfl := Option.some.inj h
      exact ImpX.arr (s := 4) 1 J fun b4=>ImpX.here ⟨_,.cons (.tmp _ _ J) (.cons (.tmp _ _ J) .nil),_,.cons .p0 .nil,⟨b4,J,J⟩⟩
    · refine have h := iteF hc h; tK<|tS<|tSR<|rM J J<|rM J J<|?_
      cases h
  · refine have cM6 := TM_some e2 (tenant_checked_c e1); t_call6 J cM6 (CoL.refl _) .nil (fun _ _ _ _ _ _=>J) J fun b5 b6 b7 b8 b9 b10=>rM J J<|rX J J J<|rX J J J<|rA J J<|rA J J<|rN<|tS<|tSR<|rM J J<|ARun.qv (q_neq J J) J<|rN<|ATodo.cond_d J (fun hc=>?_) (fun hc=>?_)
    · refine have h := iteT hc h; tSR<|rM J J<|rA J J<|rA J J<|rN<|ATodo.ret<|?_
      obtain rfl := Option.some.inj h
      exact ImpX.arr (s := 4) 1 J fun b11=>ImpX.here ⟨_,.cons (.tmp _ _ J) (.cons (.tmp _ _ J) .nil),_,.cons .p0 .nil,⟨b11,J,J⟩⟩
    · refine have h := iteF hc h; tK<|tS<|tSR<|rM J J<|rM J J<|bndE h fun v12 e3 h=>t_call0 J (tenant_view_is_c e3) (CoL.refl _) (.cons .p0 (.cons .p0 .nil)) J J<|ARun.qv (q_not J) J<|rN<|ATodo.cond J (fun hc=>?_) (fun hc=>?_)
      · refine have h := iteT hc h; tSR<|rA J J<|rA J J<|rN<|ATodo.ret<|?_
        obtain rfl := Option.some.inj h
        exact ImpX.arr (s := 4) 1 J fun b13=>ImpX.here ⟨_,.cons (.tmp _ _ J) (.cons (.tmp _ _ J) .nil),_,.cons .p0 .nil,⟨b13,J,J⟩⟩
      · refine have h := iteFb hc h; tK<|tSR<|rM J J<|rM J J<|bndE h fun v14 e4 h=>t_call1 J (tenant_view_path_c e4) (CoL.refl _) (.cons .p0 (.cons .p0 .nil)) (fun _=>J) J fun b15=>rA J J<|rA J J<|rN<|ATodo.ret<|?_
        obtain rfl := Option.some.inj h
        exact ImpX.here ⟨_,.cons (.tmp _ _ J) (.cons (.tmp _ _ J) .nil),_,.cons .p2 .nil,⟨b15,J,J⟩⟩

theorem tenant_Below_c {p0x0 : Org} {p1x0 : Str} {r : (List Str) × Int} (h : tenant_Below p0x0 p1x0 = some r) : ACall Tryz.prog 19 [.agg [.list 2 (p0x0.Tenants.map Tenant.av),.list 2 (p0x0.Roles.map Role.av),.list 3 (p0x0.Members.map Member.av),.list 17 (p0x0.Shares.map Share.av)],.str p1x0] [] (T1 (fun d_0=>[(d_0,.arr 1 (r.1.map AV.str))]) (fun d_0=>.tup [.sl 1 d_0 0 r.1.length,I r.2])) := by
  unfold tenant_Below at h
  refine ACall.lessH ?_
  refine ACall.bodyN Tryz.func19 J Tryz.ntmps19 Tryz.results19 J J ?_
  refine tSR<|n_box J J J J fun b1=>rA J J<|rA J J<|rN<|tSR<|ARun.qv (q_load_ptr_all J J .p0 J) J<|bndE h fun v2 e1 h=>optE h (fun e2 h=>?_) (fun x3 e2 h=>?_)
  · refine have cM5 := TM_none e2 (tenant_checked_c e1); t_call0 J cM5 (CoL.refl _) .nil J J<|rM J J<|rX J J J<|rX J J J<|rA J J<|rA J J<|rN<|tS<|tSR<|rM J J<|ARun.qv (q_neq J J) J<|rN<|ATodo.cond_d J (fun hc=>?_) (fun hc=>?_)
    · refine have h := iteT hc h; tSR<|rM J J<|rA J J<|rA J J<|rN<|ATodo.ret<|?_
      obtain rfl := Option.some.inj h
      exact ImpX.arr (s := 4) 1 J fun b4=>ImpX.here ⟨_,.cons (.tmp _ _ J) (.cons (.tmp _ _ J) .nil),_,.cons .p0 .nil,⟨b4,J,J⟩⟩
    · refine have h := iteF hc h; tK<|tS<|tSR<|rM J J<|rM J J<|?_
      cases h
  · refine have cM6 := TM_some e2 (tenant_checked_c e1); t_call6 J cM6 (CoL.refl _) .nil (fun _ _ _ _ _ _=>J) J fun b5 b6 b7 b8 b9 b10=>rM J J<|rX J J J<|rX J J J<|rA J J<|rA J J<|rN<|tS<|tSR<|rM J J<|ARun.qv (q_neq J J) J<|rN<|ATodo.cond_d J (fun hc=>?_) (fun hc=>?_)
    · refine have h := iteT hc h; tSR<|rM J J<|rA J J<|rA J J<|rN<|ATodo.ret<|?_
      obtain rfl := Option.some.inj h
      exact ImpX.arr (s := 4) 1 J fun b11=>ImpX.here ⟨_,.cons (.tmp _ _ J) (.cons (.tmp _ _ J) .nil),_,.cons .p0 .nil,⟨b11,J,J⟩⟩
    · refine have h := iteF hc h; tK<|tS<|tSR<|rM J J<|rM J J<|bndE h fun v12 e3 h=>t_call0 J (tenant_view_is_c e3) (CoL.refl _) (.cons .p0 (.cons .p0 .nil)) J J<|ARun.qv (q_not J) J<|rN<|ATodo.cond J (fun hc=>?_) (fun hc=>?_)
      · refine have h := iteT hc h; tSR<|rA J J<|rA J J<|rN<|ATodo.ret<|?_
        obtain rfl := Option.some.inj h
        exact ImpX.arr (s := 4) 1 J fun b13=>ImpX.here ⟨_,.cons (.tmp _ _ J) (.cons (.tmp _ _ J) .nil),_,.cons .p0 .nil,⟨b13,J,J⟩⟩
      · refine have h := iteFb hc h; tK<|tSR<|rA J J<|rN<|tS<|tSR<|rF J J J<|rL J J .p6 J J<|ARun.qv (t_len J) J<|rM J J<|rN<|ATodo.block<|ATodo.loopI (fun x : (List Str) × Int=>tenant_Below_b1 p0x0 p1x0 x3 x.1 x.2) (fun x σ'=>∃ (b17 : Bk),σ' = ⟨42,[(1,.str p1x0),(6,.ptr b5 0),(8,.sl 1 b17 0 x.1.length),(24,.list 2 (p0x0.Tenants.map Tenant.av)),(25,I (p0x0.Tenants.length : Int)),(26,I x.2)],[(b5,.cells [.list 2 (x3.Org.Tenants.map Tenant.av),.list 2 (x3.Org.Roles.map Role.av),.list 3 (x3.Org.Members.map Member.av),.list 17 (x3.Org.Shares.map Share.av),.mref b6,.mref b7,.mref b8,.mref b9,.mref b10]),(b6,.mp (x3.parent_.map (fun e=>(AV.str e.1,AV.str e.2)))),(b7,.mp (x3.acts_.map (fun e=>(AV.str e.1,(encL 1 AV.str) e.2)))),(b8,.mp (x3.at_.map (fun e=>(AV.str e.1,(encL 1 I) e.2)))),(b9,.mp (x3.found_.map (fun e=>(Tenant_asks.av e.1,(encL 1 I) e.2)))),(b10,.mp (x3.wider_.map (fun e=>(Tenant_asks.av e.1,AV.bool e.2)))),(b17,.arr 1 (x.1.map AV.str))]⟩) h ?_ ?_
        · exact ImpX.arr (s := 8) 1 J fun b20=>ImpX.lq [1,1,1,1,1,1,0] ⟨b20,J⟩ J J
        · intro x z1 σ' J1 hmk h hJ1 hA1
          obtain ⟨l18, n19⟩ := x
          obtain ⟨b17, rfl⟩ := hmk
          replace h : tenant_Below_b1 p0x0 p1x0 x3 l18 n19 = some z1 := h
          unfold tenant_Below_b1 at h
          refine tSR<|ARun.qv (q_lss J J) J<|rN<|tS<|ATodo.cond_d J (fun hc=>?_) (fun hc=>?_)
          · refine have h := iteT hc h; tK<|tS<|ATodo.block<|tSR<|bndE h fun v21 e4 h=>ARun.qv (t_index J J J e4 J J) J<|ARun.qv (q_load_rptr_agg J J J) J<|n_alloc J J J J fun b22=>n_store_ptr J J J J .p0 J J<|rN<|tSR<|rM J J<|rF J J J<|rL J J .p0 J J<|rM J J<|bndE h fun v23 e5 h=>t_call0 J (tenant_view_belongs_c e5) (CoL.refl _) (.cons .p1 (.cons .p1 .nil)) J J<|rN<|ATodo.cut (fun σ'=>∃ (b24 : Bk) (l25 : List Str),tenant_Below_j1 n19 l25 = some z1 ∧ σ' = ⟨42,[(1,.str p1x0),(6,.ptr b5 0),(8,.sl 1 b24 0 l25.length),(24,.list 2 (p0x0.Tenants.map Tenant.av)),(25,I (p0x0.Tenants.length : Int)),(26,I n19)],[(b5,.cells [.list 2 (x3.Org.Tenants.map Tenant.av),.list 2 (x3.Org.Roles.map Role.av),.list 3 (x3.Org.Members.map Member.av),.list 17 (x3.Org.Shares.map Share.av),.mref b6,.mref b7,.mref b8,.mref b9,.mref b10]),(b6,.mp (x3.parent_.map (fun e=>(AV.str e.1,AV.str e.2)))),(b7,.mp (x3.acts_.map (fun e=>(AV.str e.1,(encL 1 AV.str) e.2)))),(b8,.mp (x3.at_.map (fun e=>(AV.str e.1,(encL 1 I) e.2)))),(b9,.mp (x3.found_.map (fun e=>(Tenant_asks.av e.1,(encL 1 I) e.2)))),(b10,.mp (x3.wider_.map (fun e=>(Tenant_asks.av e.1,AV.bool e.2)))),(b24,.arr 1 (l25.map AV.str))]⟩) ?_ ?_
            · refine ATodo.cond J (fun hc=>?_) (fun hc=>?_)
              · exact have h := iteT hc h; tR<|rM J J<|rF J J J<|rL J J .p2 J J<|n_buildSliceL (xs := ([v21.Key] : List Str).map AV.str) J J J J J J<|bndE h fun l26 e6 h=>t_append (g := AV.str) J J J J J J J J (.list _) e6 (fun _=>.p7) J fun b27=>rA J J<|rN<|ATodo.stop<|ImpX.lq [0,0,1,1,1,1,1] ⟨b27,l26,h,J⟩ J J
              · exact have h := iteFb hc h; tK<|ATodo.stop<|ImpX.lq [0,0,1,1,1,1,1] ⟨b17,l18,h,J⟩ J J
            · rintro σ' ⟨b24, l25, h, rfl⟩
              unfold tenant_Below_j1 at h
              refine ATodo.blk<|tR<|ARun.qv (q_addw J J) J<|rM J J<|rN<|ATodo.stop<|?_
              obtain rfl := Option.some.inj h
              exact hJ1 _ _ J<|ImpX.lq [0,0,0,0,0,0,0] ⟨b24,J⟩ J J
          · refine have h := iteF hc h; ATodo.exit J<|have h := outL h hA1; tSR<|rM J J<|rA J J<|rA J J<|rN<|ATodo.ret<|?_
            obtain rfl := Option.some.inj h
            exact ImpX.here ⟨_,.cons (.tmp _ _ J) (.cons (.tmp _ _ J) .nil),_,.cons .p6 .nil,⟨b17,J,J⟩⟩

theorem Q_PathTo_c [GI : GTab] {p0x0 : Org} {p1x0 : Str} {r : (List Str)} (h : Q_PathTo p0x0 p1x0 = some r) : Pu Tryz.prog 21 [.agg [.list 2 (p0x0.Tenants.map Tenant.av),.list 2 (p0x0.Roles.map Role.av),.list 3 (p0x0.Members.map Member.av),.list 17 (p0x0.Shares.map Share.av)],.str p1x0] (.list 1 (r.map AV.str)) := by
  unfold Q_PathTo at h
  refine ACall.bodyN Tryz.func21 J Tryz.ntmps21 Tryz.results21 J J ?_
  refine tSR<|n_box J J J J fun b1=>rA J J<|rN<|tS<|tSR<|ARun.qv (q_load_ptr_all J J .p0 J) J<|rM J J<|bndE h fun v2 e1 h=>r_callp J (Q_tenantAt_c e1) (CoL.refl _) J<|ARun.qv (q_lss J J) J<|rN<|ATodo.cond_d J (fun hc=>?_) (fun hc=>?_)
  · refine have h := iteT hc h; tSR<|rA J J<|rN<|ATodo.ret<|?_
    obtain rfl := Option.some.inj h
    exact ImpX.co (s := 4) J (.nil 1)<|ImpX.here ⟨_,.cons (.tmp _ _ J) .nil,J⟩
  · refine have h := iteF hc h; tK<|tSR<|ARun.qv (q_load_ptr_all J J .p0 J) J<|rM J J<|bndE h fun v3 e2 h=>r_callp J (Q_pathOf_c e2) (CoL.refl _) J<|rA J J<|rN<|ATodo.ret<|?_
    obtain rfl := Option.some.inj h
    exact ImpX.here ⟨_,.cons (.tmp _ _ J) .nil,J⟩

theorem Q_PathTo_nil_c [GI : GTab] {p0x0 : Org} {p1x0 : Str} {r : (Option (List Str))} (h : Q_PathTo_nil p0x0 p1x0 = some r) : ACall Tryz.prog 21 [.agg [.list 2 (p0x0.Tenants.map Tenant.av),.list 2 (p0x0.Roles.map Role.av),.list 3 (p0x0.Members.map Member.av),.list 17 (p0x0.Shares.map Share.av)],.str p1x0] [] (TM r (T0 ([]) (.nil)) (fun x=>T1 (fun d_0=>[(d_0,.arr 1 (x.map AV.str))]) (fun d_0=>.sl 1 d_0 0 x.length))) := by
  unfold Q_PathTo_nil at h
  refine ACall.lessH ?_
  refine ACall.bodyN Tryz.func21 J Tryz.ntmps21 Tryz.results21 J J ?_
  refine tSR<|n_box J J J J fun b1=>rA J J<|rN<|tS<|tSR<|ARun.qv (q_load_ptr_all J J .p0 J) J<|rM J J<|bndE h fun v2 e1 h=>r_callp J (Q_tenantAt_c e1) (CoL.refl _) J<|ARun.qv (q_lss J J) J<|rN<|ATodo.cond_d J (fun hc=>?_) (fun hc=>?_)
  · refine have h := iteT hc h; tSR<|rA J J<|rN<|ATodo.ret<|?_
    obtain rfl := Option.some.inj h
    exact ImpX.here ⟨_,.cons (.tmp _ _ J) .nil,_,.nil,⟨J,J⟩⟩
  · refine have h := iteF hc h; tK<|tSR<|ARun.qv (q_load_ptr_all J J .p0 J) J<|rM J J<|bndE h fun v3 e2 h=>optE h (fun e3 h=>?_) (fun x4 e3 h=>?_)
    · refine have cM5 := TM_none e3 (Q_pathOf_nil_c e2); t_call0 J cM5 (CoL.refl _) .nil J J<|rA J J<|rN<|ATodo.ret<|?_
      obtain rfl := Option.some.inj h
      exact ImpX.here ⟨_,.cons (.tmp _ _ J) .nil,_,.nil,⟨J,J⟩⟩
    · refine have cM6 := TM_some e3 (Q_pathOf_nil_c e2); t_call1 J cM6 (CoL.refl _) .nil (fun _=>J) J fun b5=>rA J J<|rN<|ATodo.ret<|?_
      obtain rfl := Option.some.inj h
      exact ImpX.here ⟨_,.cons (.tmp _ _ J) .nil,_,.cons .p0 .nil,⟨b5,J,J⟩⟩

theorem L_when_c [GI : GTab] {p0x0 : Bool} {p1x0 : Int} {r : Int} (h : L_when p0x0 p1x0 = r) : Pu Tryz.prog 20 [.bool p0x0,I p1x0] (I r) := by
  unfold L_when at h
  refine ACall.bodyN Tryz.func20 J Tryz.ntmps20 Tryz.results20 J J ?_
  refine tSR<|rA J J<|rN<|tS<|tSR<|rM J J<|rN<|ATodo.cond J (fun hc=>?_) (fun hc=>?_)
  · refine have h := iteT hc h; tSR<|rM J J<|rA J J<|rN<|ATodo.ret<|?_
    obtain rfl := h
    exact ImpX.here ⟨_,.cons (.tmp _ _ J) .nil,J⟩
  · refine have h := iteFb hc h; tK<|tSR<|rA J J<|rN<|ATodo.ret<|?_
    obtain rfl := h
    exact ImpX.here ⟨_,.cons (.tmp _ _ J) .nil,J⟩

theorem slices_Equal_string_string_c [GI : GTab] {p0x0 : List Str} {p1x0 : List Str} {r : Bool} (h : slices_Equal_string_string p0x0 p1x0 = some r) : Pu Tryz.prog 22 [.list 1 (p0x0.map AV.str),.list 1 (p1x0.map AV.str)] (.bool r) := by
  unfold slices_Equal_string_string at h
  refine ACall.bodyN Tryz.func22 J Tryz.ntmps22 Tryz.results22 J J ?_
  refine tSR<|rA J J<|rN<|tS<|tSR<|rM J J<|ARun.qv (t_len J) J<|rM J J<|ARun.qv (t_len J) J<|ARun.qv (q_neq J J) J<|rN<|ATodo.cond_d J (fun hc=>?_) (fun hc=>?_)
  · refine have h := iteT hc h; tSR<|rA J J<|rN<|ATodo.ret<|?_
    obtain rfl := Option.some.inj h
    exact ImpX.here ⟨_,.cons (.tmp _ _ J) .nil,J⟩
  · refine have h := iteF hc h; tK<|tS<|tSR<|rM J J<|ARun.qv (t_len J) J<|rM J J<|rN<|ATodo.block<|ATodo.loopI (fun x : Int=>slices_Equal_string_string_b1 p0x0 p1x0 x) (fun x σ'=>σ' = ⟨26,[(0,.list 1 (p0x0.map AV.str)),(1,.list 1 (p1x0.map AV.str)),(12,I (p0x0.length : Int)),(13,I x)],[]⟩) h ?_ ?_
    · exact ImpX.lq [] J J J
    · intro n2 z1 σ' J1 hmk h hJ1 hA1
      obtain rfl := hmk
      replace h : slices_Equal_string_string_b1 p0x0 p1x0 n2 = some z1 := h
      unfold slices_Equal_string_string_b1 at h
      refine tSR<|ARun.qv (q_lss J J) J<|rN<|tS<|ATodo.cond_d J (fun hc=>?_) (fun hc=>?_)
      · refine have h := iteT hc h; tK<|tS<|ATodo.block<|tSR<|rM J J<|rA J J<|rN<|tS<|ATodo.regionM (id := 6) (A := [0,0,3,7,0,0,48,112,255]) 9 mixed J (by kernel_rfl) (by kernel_rfl)<|AM.qv (q_move J) J<|AM.qv (q_move J) J<|bndE h fun v3 e1 h=>AM.qv (t_index J J J e1 J J) J<|AM.qv (q_load_rptr J J J) J<|AM.qv (q_move J) J<|AM.qv (q_move J) J<|bndE h fun v4 e2 h=>AM.qv (t_index J J J e2 J J) J<|AM.qv (q_load_rptr J J J) J<|AM.qv (q_sne J J) J<|AM.nil<|rN<|ATodo.cond_d J (fun hc=>?_) (fun hc=>?_)
        · refine have h := iteT hc h; tSR<|rA J J<|rN<|ATodo.ret<|have h := outL h hA1; ?_
          obtain rfl := Option.some.inj h
          exact ImpX.here ⟨_,.cons (.tmp _ _ J) .nil,J⟩
        · refine have h := iteF hc h; tK<|ATodo.blk<|tR<|ARun.qv (q_addw J J) J<|rM J J<|rN<|ATodo.stop<|?_
          obtain rfl := Option.some.inj h
          exact hJ1 _ _ J<|ImpX.lq [] J J J
      · refine have h := iteF hc h; ATodo.exit J<|have h := outL h hA1; tSR<|rA J J<|rN<|ATodo.ret<|?_
        obtain rfl := Option.some.inj h
        exact ImpX.here ⟨_,.cons (.tmp _ _ J) .nil,J⟩

theorem Q_BelowOf_c [GI : GTab] {p0x0 : Org} {p1x0 : Str} {r : (List Str)} (h : Q_BelowOf p0x0 p1x0 = some r) : ACall Tryz.prog 23 [.agg [.list 2 (p0x0.Tenants.map Tenant.av),.list 2 (p0x0.Roles.map Role.av),.list 3 (p0x0.Members.map Member.av),.list 17 (p0x0.Shares.map Share.av)],.str p1x0] [] (T1 (fun d_0=>[(d_0,.arr 1 (r.map AV.str))]) (fun d_0=>.sl 1 d_0 0 r.length)) := by
  unfold Q_BelowOf at h
  refine ACall.lessH ?_
  refine ACall.bodyN Tryz.func23 J Tryz.ntmps23 Tryz.results23 J J ?_
  refine tSR<|n_box J J J J fun b1=>rA J J<|rN<|tSR<|rA J J<|rN<|tS<|tSR<|rF J J J<|rL J J .p0 J J<|ARun.qv (t_len J) J<|rM J J<|rN<|ATodo.block<|ATodo.loopI (fun x : (List Str) × Int=>Q_BelowOf_b1 p0x0 p1x0 x.1 x.2) (fun x σ'=>∃ (b5 : Bk),σ' = ⟨34,[(1,.str p1x0),(2,.ptr b1 0),(5,.sl 1 b5 0 x.1.length),(9,.list 2 (p0x0.Tenants.map Tenant.av)),(10,I (p0x0.Tenants.length : Int)),(11,I x.2)],[(b1,.cells [.list 2 (p0x0.Tenants.map Tenant.av),.list 2 (p0x0.Roles.map Role.av),.list 3 (p0x0.Members.map Member.av),.list 17 (p0x0.Shares.map Share.av)]),(b5,.arr 1 (x.1.map AV.str))]⟩) h ?_ ?_
  · exact ImpX.arr (s := 5) 1 J fun b8=>ImpX.lq [1,0] ⟨b8,J⟩ J J
  · intro x z1 σ' J1 hmk h hJ1 hA1
    obtain ⟨l6, n7⟩ := x
    obtain ⟨b5, rfl⟩ := hmk
    replace h : Q_BelowOf_b1 p0x0 p1x0 l6 n7 = some z1 := h
    unfold Q_BelowOf_b1 at h
    refine tSR<|ARun.qv (q_lss J J) J<|rN<|tS<|ATodo.cond_d J (fun hc=>?_) (fun hc=>?_)
    · refine have h := iteT hc h; tK<|tS<|ATodo.block<|tSR<|bndE h fun v9 e1 h=>ARun.qv (t_index J J J e1 J J) J<|ARun.qv (q_load_rptr_agg J J J) J<|n_alloc J J J J fun b10=>n_store_ptr J J J J .p0 J J<|rN<|tS<|ATodo.cut (fun σ'=>∃ (c11 : Bool),Q_BelowOf_j1 l6 n7 v9 c11 = some z1 ∧ σ' = ⟨34,[(1,.str p1x0),(2,.ptr b1 0),(5,.sl 1 b5 0 l6.length),(7,.ptr b10 0),(9,.list 2 (p0x0.Tenants.map Tenant.av)),(10,I (p0x0.Tenants.length : Int)),(11,I n7),(26,.bool c11)],[(b1,.cells [.list 2 (p0x0.Tenants.map Tenant.av),.list 2 (p0x0.Roles.map Role.av),.list 3 (p0x0.Members.map Member.av),.list 17 (p0x0.Shares.map Share.av)]),(b5,.arr 1 (l6.map AV.str)),(b10,.cells [.str v9.Key,.str v9.Parent])]⟩) ?_ ?_
      · refine tR<|rF J J J<|rL J J .p0 J J<|rM J J<|ARun.qv (q_sne J J) J<|rM J J<|ARun.guard_dt J J J (fun hc=>?_) (fun hc=>?_)
        · exact have h := iteT hc h; ARun.qv (q_load_ptr_all J J .p1 J) J<|rY J J J<|rF J J J<|rY J J J<|rL J J .p0 J J<|rY J J J<|bndE h fun v12 e2 h=>r_callp J (Q_pathOf_c e2) (CoL.refl _) J<|rY J J J<|rM J J<|rY J J J<|bndE h fun v13 e3 h=>r_callp J (slices_Contains_string_string_c e3) (CoL.refl _) J<|rT J J J<|rN<|ATodo.stop<|ImpX.lq [1,1,0] ⟨v13,h,J⟩ J J
        · exact have h := iteF hc h; rG J J J J<|rG J J J J<|rG J J J J<|rG J J J J<|rG J J J J<|rE J J J<|rN<|ATodo.stop<|ImpX.lq [1,1,0] ⟨false,h,J⟩ J J
      · rintro σ' ⟨c11, h, rfl⟩
        unfold Q_BelowOf_j1 at h
        refine ATodo.cut (fun σ'=>∃ (b14 : Bk) (l15 : List Str),Q_BelowOf_j2 n7 l15 = some z1 ∧ σ' = ⟨34,[(1,.str p1x0),(2,.ptr b1 0),(5,.sl 1 b14 0 l15.length),(9,.list 2 (p0x0.Tenants.map Tenant.av)),(10,I (p0x0.Tenants.length : Int)),(11,I n7)],[(b1,.cells [.list 2 (p0x0.Tenants.map Tenant.av),.list 2 (p0x0.Roles.map Role.av),.list 3 (p0x0.Members.map Member.av),.list 17 (p0x0.Shares.map Share.av)]),(b14,.arr 1 (l15.map AV.str))]⟩) ?_ ?_
        · refine ATodo.cond J (fun hc=>?_) (fun hc=>?_)
          · exact have h := iteT hc h; tR<|rM J J<|rF J J J<|rL J J .p2 J J<|n_buildSliceL (xs := ([v9.Key] : List Str).map AV.str) J J J J J J<|bndE h fun l16 e4 h=>t_append (g := AV.str) J J J J J J J J (.list _) e4 (fun _=>.p1) J fun b17=>rA J J<|rN<|ATodo.stop<|ImpX.lq [0,0] ⟨b17,l16,h,J⟩ J J
          · exact have h := iteFb hc h; tK<|ATodo.stop<|ImpX.lq [0,0] ⟨b5,l6,h,J⟩ J J
        · rintro σ' ⟨b14, l15, h, rfl⟩
          unfold Q_BelowOf_j2 at h
          refine ATodo.blk<|tR<|ARun.qv (q_addw J J) J<|rM J J<|rN<|ATodo.stop<|?_
          obtain rfl := Option.some.inj h
          exact hJ1 _ _ J<|ImpX.lq [0,0] ⟨b14,J⟩ J J
    · refine have h := iteF hc h; ATodo.exit J<|have h := outL h hA1; tSR<|rM J J<|rA J J<|rN<|ATodo.ret<|?_
      obtain rfl := Option.some.inj h
      exact ImpX.here ⟨_,.cons (.tmp _ _ J) .nil,_,.cons .p1 .nil,⟨b5,J,J⟩⟩

theorem L_tenanted_c {r : Bool} (h : L_tenanted = some r) : Pu Tryz.prog 24 [] (.bool r) := by
  unfold L_tenanted at h
  refine ACall.bodyN Tryz.func24 J Tryz.ntmps24 Tryz.results24 J J ?_
  refine tSR<|rA J J<|rN<|tSR<|n_buildSliceL (xs := ([([97,46,42] : Str)]).map AV.str) J J J J J J<|n_buildSliceL (xs := ([([97,46,98] : Str)]).map AV.str) J J J J J J<|bndE h fun v1 e1 h=>r_callp J (tenant_Covers_c e1) (CoL.refl _) J<|rM J J<|rX J J J<|rX J J J<|rA J J<|rA J J<|rN<|tS<|ATodo.cut (fun σ'=>∃ (c2 : Bool),L_tenanted_j1 c2 = some r ∧ σ' = ⟨14,[(0,.bool c2)],[]⟩) ?_ ?_
  · refine tR<|rM J J<|ARun.qv (q_eql J J) J<|rM J J<|ARun.guard_dt J J J (fun hc=>?_) (fun hc=>?_)
    · rw [andTd hc] at h
      exact rM J J<|rT J J J<|rA J J<|rN<|ATodo.stop<|ImpX.lq [] ⟨v1.1,h,J⟩ J J
    · rw [andFd hc] at h
      exact rE J J J<|rA J J<|rN<|ATodo.stop<|ImpX.lq [] ⟨false,h,J⟩ J J
  · rintro σ' ⟨c2, h, rfl⟩
    unfold L_tenanted_j1 at h
    refine ATodo.ret<|?_
    obtain rfl := Option.some.inj h
    exact ImpX.here ⟨_,.cons (.tmp _ _ J) .nil,J⟩

theorem L_OrgsChecked_c {p0x0 : List Int} {r : Bool} (h : L_OrgsChecked p0x0 = some r) : Pu Tryz.prog 3 [.list 1 (p0x0.map I)] (.bool r) := by
  unfold L_OrgsChecked at h
  refine ACall.bodyN Tryz.func3 J Tryz.ntmps3 Tryz.results3 J J ?_
  refine tSR<|rA J J<|rN<|tSR<|rM J J<|ARun.qv (n_build J J J J J) J<|n_box J J J J fun b1=>n_alloc J J J J fun b2=>n_store_ptr J J J J .p0 J J<|rN<|tS<|bndE h fun v3 e1 h=>bndE h fun v4 e2 h=>ATodo.regionT (id := 2) (A := [0,1,0,0,15,0,63,127]) (H0 := [(b1,.cells [.list 1 (p0x0.map I),I (0 : Int)])]) (HH := fun β=>[(b1,.cells [.list 1 (v4.2.L.map I),I v4.2.at_]),((β 5),.cells [.nil,.nil,.nil,.nil]),(b2,.cells [.ptr b1 0])]) 6 mixed J (by kernel_rfl) (by kernel_rfl) [⟨none,some 1,[],fun _=>(b1,.cells [.list 1 (p0x0.map I),I (0 : Int)]),none⟩,⟨some 1,some 4,[],fun _=>(b1,.cells [.list 1 (v3.2.L.map I),I v3.2.at_]),none⟩,⟨some 4,none,[],fun _=>(b1,.cells [.list 1 (v4.2.L.map I),I v4.2.at_]),none⟩,⟨some 5,none,[],fun b=>(b,.cells [.nil,.nil,.nil,.nil]),none⟩] [5] J (by kernel_rfl) J (.cons .p1 .nil) (fun _=>J)<|AT.am 1 J J<|AM.qv (q_load_ptr J J .p0 J) J<|AM.nil<|AT.runS (av := .agg [.list 2 (v3.1.Tenants.map Tenant.av),.list 2 (v3.1.Roles.map Role.av),.list 3 (v3.1.Members.map Member.av),.list 17 (v3.1.Shares.map Share.av)]) (Ti := [(b1,.cells [.list 1 (p0x0.map I),I (0 : Int)])]) (Pi := [(b1,.cells [.list 1 (v3.2.L.map I),I v3.2.at_])]) (fun _=>J) (fun _=>J) (fun _=>J) J J J ?_ ?_
  · exact t_call0 J (Stream_Org_c e1) (CoL.refl _) (.cons .p0 .nil) J J<|ARun.nil ⟨_,J,J⟩
  refine AT.am 2 J J<|AM.qv (q_load_ptr J J .p0 J) J<|AM.buildSliceL (xs := ([([116,97] : Str),([116,98] : Str),([116,99] : Str),([110,111,110,101] : Str)]).map AV.str) J J J J J J<|AM.nil<|AT.runS (av := .str v4.1) (Ti := [(b1,.cells [.list 1 (v3.2.L.map I),I v3.2.at_])]) (Pi := [(b1,.cells [.list 1 (v4.2.L.map I),I v4.2.at_])]) (fun _=>J) (fun _=>J) (fun _=>J) J J J ?_ ?_
  · exact t_call0 J (Stream_Some_c e2) (CoL.refl _) (.cons .p0 .nil) J J<|ARun.nil ⟨_,J,J⟩
  refine AT.runD (V := fun b=>.ptr b 0) (Ti := []) (Pi := fun b=>[(b,.cells [.nil,.nil,.nil,.nil])]) (fun _=>J) (fun _=>J) (fun _ _=>J) J (fun _=>J) J J J ?_ ?_
  · exact n_alloc J J J J fun b5=>ARun.nil ⟨b5,_,J,J⟩
  refine AT.nilN (fun _=>J) fun β=>?_
  generalize β 5 = b5
  clear β
  refine n_store_ptr J J J J .p1 J J<|rA J J<|rN<|tSR<|ARun.ghost<|ImpX.frzPtr (s := 3) J .p2<|ImpX.here<|ARun.qv (q_makeFunc J) J<|rA J J<|rN<|tS<|bndE h fun v6 e3 h=>bndE h fun v7 e4 h=>bndE h fun v8 e5 h=>bndE h fun l9 e6 h=>bndE h fun v10 e7 h=>bndE h fun v11 e8 h=>bndE h fun v12 e9 h=>bndE h fun l13 e10 h=>ATodo.regionT (id := 4) (A := [0,1,0,7,15,0,47,127,0,367,0,1903,3951,0,12143,32623,28671,131071]) (H0 := [(b1,.cells [.list 1 (v4.2.L.map I),I v4.2.at_])]) (HH := fun β=>[(b1,.cells [.list 1 (v12.2.L.map I),I v12.2.at_]),(b5,.cells [.list 2 (v3.1.Tenants.map Tenant.av),.list 2 (v3.1.Roles.map Role.av),.list 3 (v3.1.Members.map Member.av),.list 17 (v3.1.Shares.map Share.av)])]) 17 mixed J (by kernel_rfl) (by kernel_rfl) [⟨none,some 1,[],fun _=>(b1,.cells [.list 1 (v4.2.L.map I),I v4.2.at_]),none⟩,⟨some 1,some 3,[],fun _=>(b1,.cells [.list 1 (v6.2.L.map I),I v6.2.at_]),none⟩,⟨some 3,some 6,[],fun _=>(b1,.cells [.list 1 (v7.2.L.map I),I v7.2.at_]),none⟩,⟨some 6,some 9,[],fun _=>(b1,.cells [.list 1 (v8.2.L.map I),I v8.2.at_]),none⟩,⟨some 9,some 11,[],fun _=>(b1,.cells [.list 1 (v10.2.L.map I),I v10.2.at_]),none⟩,⟨some 11,some 14,[],fun _=>(b1,.cells [.list 1 (v11.2.L.map I),I v11.2.at_]),none⟩,⟨some 14,none,[],fun _=>(b1,.cells [.list 1 (v12.2.L.map I),I v12.2.at_]),none⟩] [] J (by kernel_rfl) J (.cons .p0 .nil) (fun _=>J)<|AT.am 1 J J<|AM.qv (q_move J) J<|AM.nil<|AT.runS (av := .str v6.1) (Ti := [(b1,.cells [.list 1 (v4.2.L.map I),I v4.2.at_])]) (Pi := [(b1,.cells [.list 1 (v6.2.L.map I),I v6.2.at_])]) (fun _=>J) (fun _=>J) (fun _=>J) J J J ?_ ?_
  · exact t_callv0 J J J (L_OrgsChecked_1x_c e3) (CoL.refl _) (.cons .p0 .nil) J J<|ARun.nil ⟨_,J,J⟩
  refine AT.am 1 J J<|AM.qv (q_move J) J<|AM.nil<|AT.runS (av := .str v7.1) (Ti := [(b1,.cells [.list 1 (v6.2.L.map I),I v6.2.at_])]) (Pi := [(b1,.cells [.list 1 (v7.2.L.map I),I v7.2.at_])]) (fun _=>J) (fun _=>J) (fun _=>J) J J J ?_ ?_
  · exact t_callv0 J J J (L_OrgsChecked_1x_c e4) (CoL.refl _) (.cons .p0 .nil) J J<|ARun.nil ⟨_,J,J⟩
  refine AT.am 2 J J<|AM.buildSliceL (xs := ([v6.1,v7.1] : List Str).map AV.str) J J J J J J<|AM.qv (q_load_rptr J J J) J<|AM.nil<|AT.runS (av := I v8.1) (Ti := [(b1,.cells [.list 1 (v7.2.L.map I),I v7.2.at_])]) (Pi := [(b1,.cells [.list 1 (v8.2.L.map I),I v8.2.at_])]) (fun _=>J) (fun _=>J) (fun _=>J) J J J ?_ ?_
  · exact t_call0 J (Stream_Next_c e5) (CoL.refl _) (.cons .p0 .nil) J J<|ARun.nil ⟨_,J,J⟩
  refine AT.am 2 J J<|AM.qv (t_slice_list J J .none (.some _ _ _ J) J J e6) J<|AM.qv (q_move J) J<|AM.nil<|AT.runS (av := .str v10.1) (Ti := [(b1,.cells [.list 1 (v8.2.L.map I),I v8.2.at_])]) (Pi := [(b1,.cells [.list 1 (v10.2.L.map I),I v10.2.at_])]) (fun _=>J) (fun _=>J) (fun _=>J) J J J ?_ ?_
  · exact t_callv0 J J J (L_OrgsChecked_1x_c e7) (CoL.refl _) (.cons .p0 .nil) J J<|ARun.nil ⟨_,J,J⟩
  refine AT.am 1 J J<|AM.qv (q_move J) J<|AM.nil<|AT.runS (av := .str v11.1) (Ti := [(b1,.cells [.list 1 (v10.2.L.map I),I v10.2.at_])]) (Pi := [(b1,.cells [.list 1 (v11.2.L.map I),I v11.2.at_])]) (fun _=>J) (fun _=>J) (fun _=>J) J J J ?_ ?_
  · exact t_callv0 J J J (L_OrgsChecked_1x_c e8) (CoL.refl _) (.cons .p0 .nil) J J<|ARun.nil ⟨_,J,J⟩
  refine AT.am 2 J J<|AM.buildSliceL (xs := ([v10.1,v11.1] : List Str).map AV.str) J J J J J J<|AM.qv (q_load_rptr J J J) J<|AM.nil<|AT.runS (av := I v12.1) (Ti := [(b1,.cells [.list 1 (v11.2.L.map I),I v11.2.at_])]) (Pi := [(b1,.cells [.list 1 (v12.2.L.map I),I v12.2.at_])]) (fun _=>J) (fun _=>J) (fun _=>J) J J J ?_ ?_
  · exact t_call0 J (Stream_Next_c e9) (CoL.refl _) (.cons .p0 .nil) J J<|ARun.nil ⟨_,J,J⟩
  refine AT.am 2 J J<|AM.qv (t_slice_list J J .none (.some _ _ _ J) J J e10) J<|AM.qv (q_assign J) J<|AM.nil<|AT.nilN (fun _=>J) fun β=>rA J J<|rN<|tSR<|rM J J<|rM J J<|bndE h fun v14 e11 h=>r_callp J (tenant_Covers_c e11) (CoL.refl _) J<|rM J J<|rX J J J<|rX J J J<|rA J J<|rA J J<|rN<|tSR<|rM J J<|rM J J<|bndE h fun v15 e12 h=>r_callp J (Q_CoversFault_c e12) (CoL.refl _) J<|rA J J<|rN<|tS<|tS<|ATodo.cut (fun σ'=>∃ (c16 : Bool),L_OrgsChecked_j1 v3 v4 c16 = some r ∧ σ' = ⟨137,[(4,.ptr b5 0),(5,.str v4.1),(63,.bool c16)],[(b5,.cells [.list 2 (v3.1.Tenants.map Tenant.av),.list 2 (v3.1.Roles.map Role.av),.list 3 (v3.1.Members.map Member.av),.list 17 (v3.1.Shares.map Share.av)])]⟩) ?_ ?_
  · refine tR<|rM J J<|rM J J<|ARun.qv (q_neq J J) J<|rM J J<|ARun.guard_df J J J (fun hc=>?_) (fun hc=>?_)
    · refine have h := iteF hc h; rM J J<|rY J J J<|rM J J<|rY J J J<|ARun.qv (q_eql J J) J<|rY J J J<|rM J J<|ARun.guard_dt J J J (fun hc=>?_) (fun hc=>?_)
      · exact have h := iteT hc h; rM J J<|rY J J J<|rM J J<|rY J J J<|bndE h fun v17 e13 h=>r_callp J (Q_CoversAll_c e13) (CoL.refl _) J<|rY J J J<|rT J J J<|rY J J J<|ARun.qv (q_bne J J) J<|rE J J J<|rN<|ATodo.stop<|ImpX.lq [1] ⟨v14.1 != v17,h,J⟩ J J
      · exact have h := iteF hc h; rG J J J J<|rG J J J J<|rY J J J<|rE J J J<|rY J J J<|ARun.qv (q_bne J J) J<|rE J J J<|rN<|ATodo.stop<|ImpX.lq [1] ⟨v14.1 != false,h,J⟩ J J
    · exact have h := iteT hc h; rG J J J J<|rG J J J J<|rG J J J J<|ARun.guard_und J J J<|ARun.guard_und J J J<|ARun.guard_und J J J<|rG J J J J<|rG J J J J<|rT J J J<|rN<|ATodo.stop<|ImpX.lq [1] ⟨true,h,J⟩ J J
  · rintro σ' ⟨c16, h, rfl⟩
    unfold L_OrgsChecked_j1 at h
    refine ATodo.cond J (fun hc=>?_) (fun hc=>?_)
    · refine have h := iteT hc h; tSR<|rA J J<|rN<|ATodo.ret<|?_
      obtain rfl := Option.some.inj h
      exact ImpX.here ⟨_,.cons (.tmp _ _ J) .nil,J⟩
    · refine have h := iteFb hc h; tK<|tSR<|ARun.qv (q_load_ptr_all J J .p0 J) J<|bndE h fun v18 e14 h=>r_callp J (Q_OrgFault_c e14) (CoL.refl _) J<|rA J J<|rN<|tS<|tSR<|ARun.qv (q_load_ptr_all J J .p0 J) J<|bndE h fun v19 e15 h=>r_callp J (tenant_CheckOrg_c e15) (CoL.refl _) J<|rM J J<|ARun.qv (q_neq J J) J<|rN<|ATodo.cond_d J (fun hc=>?_) (fun hc=>?_)
      · refine have h := iteT hc h; tSR<|rA J J<|rN<|ATodo.ret<|?_
        obtain rfl := Option.some.inj h
        exact ImpX.here ⟨_,.cons (.tmp _ _ J) .nil,J⟩
      · refine have h := iteF hc h; tK<|tSR<|ARun.qv (q_load_ptr_all J J .p0 J) J<|bndE h fun v20 e16 h=>t_call1 J (tenant_Spare_c e16) (CoL.refl _) .nil (fun _=>J) J fun b21=>rM J J<|rX J J J<|rX J J J<|rA J J<|rA J J<|rN<|tS<|tS<|ATodo.cut (fun σ'=>∃ (c22 : Bool),L_OrgsChecked_j2 v3 v4 v18 c22 = some r ∧ σ' = ⟨137,[(4,.ptr b5 0),(5,.str v4.1),(11,I v18),(88,.bool c22)],[(b5,.cells [.list 2 (v3.1.Tenants.map Tenant.av),.list 2 (v3.1.Roles.map Role.av),.list 3 (v3.1.Members.map Member.av),.list 17 (v3.1.Shares.map Share.av)])]⟩) ?_ ?_
        · refine tR<|rM J J<|rM J J<|ARun.qv (q_neq J J) J<|rM J J<|ARun.guard_df J J J (fun hc=>?_) (fun hc=>?_)
          · refine have h := iteF hc h; rM J J<|rY J J J<|ARun.qv (q_eql J J) J<|rY J J J<|rM J J<|ARun.guard_dt J J J (fun hc=>?_) (fun hc=>?_)
            · exact have h := iteT hc h; rM J J<|rY J J J<|ARun.qv (q_load_ptr_all J J .p1 J) J<|rY J J J<|bndE h fun v23 e17 h=>t_call1 J (Q_SpareOf_c e17) (CoL.refl _) .nil (fun _=>J) J fun b24=>rY J J J<|bndE h fun v25 e18 h=>r_callpB J (slices_Equal_int_int_c e18) (.cons (CoB.arrT .p1) (.cons (CoB.arrT .p0) .nil)) J J<|rY J J J<|ARun.qv (q_not J) J<|rY J J J<|rT J J J<|rE J J J<|rN<|ATodo.stop<|ImpX.lq [2] ⟨!v25,h,J⟩ J J
            · exact have h := iteF hc h; rG J J J J<|rG J J J J<|rG J J J J<|rG J J J J<|rY J J J<|rE J J J<|rE J J J<|rN<|ATodo.stop<|ImpX.lq [1] ⟨false,h,J⟩ J J
          · exact have h := iteT hc h; rG J J J J<|rG J J J J<|ARun.guard_und J J J<|ARun.guard_und J J J<|ARun.guard_und J J J<|ARun.guard_und J J J<|ARun.guard_und J J J<|rG J J J J<|rT J J J<|rN<|ATodo.stop<|ImpX.lq [1] ⟨true,h,J⟩ J J
        · rintro σ' ⟨c22, h, rfl⟩
          unfold L_OrgsChecked_j2 at h
          refine ATodo.cond J (fun hc=>?_) (fun hc=>?_)
          · refine have h := iteT hc h; tSR<|rA J J<|rN<|ATodo.ret<|?_
            obtain rfl := Option.some.inj h
            exact ImpX.here ⟨_,.cons (.tmp _ _ J) .nil,J⟩
          · refine have h := iteFb hc h; tK<|tSR<|ARun.qv (q_load_ptr_all J J .p0 J) J<|rM J J<|bndE h fun v26 e19 h=>t_call1 J (tenant_Path_c e19) (CoL.refl _) .nil (fun _=>J) J fun b27=>rM J J<|rX J J J<|rX J J J<|rA J J<|rA J J<|rN<|tSR<|ARun.qv (q_load_ptr_all J J .p1 J) J<|rM J J<|bndE h fun v28 e20 h=>t_call1 J (tenant_Below_c e20) (CoL.refl _) .nil (fun _=>J) J fun b29=>rM J J<|rX J J J<|rX J J J<|rA J J<|rA J J<|rN<|tS<|tSR<|rM J J<|ARun.qv (q_eql J J) J<|rN<|ATodo.cut (fun σ'=>∃ (n30 : Int),L_OrgsChecked_j3 v3 v4 v26 v28 n30 = some r ∧ σ' = ⟨137,[(4,.ptr b5 0),(5,.str v4.1),(10,I v26.2),(11,I n30),(13,.sl 1 b27 0 v26.1.length),(14,.sl 1 b29 0 v28.1.length),(15,I v28.2)],[(b5,.cells [.list 2 (v3.1.Tenants.map Tenant.av),.list 2 (v3.1.Roles.map Role.av),.list 3 (v3.1.Members.map Member.av),.list 17 (v3.1.Shares.map Share.av)]),(b27,.arr 1 (v26.1.map AV.str)),(b29,.arr 1 (v28.1.map AV.str))]⟩) ?_ ?_
            · refine ATodo.cond_d J (fun hc=>?_) (fun hc=>?_)
              · refine have h := iteT hc h; tR<|ARun.qv (q_load_ptr_all J J .p2 J) J<|rM J J<|bndE h fun v31 e21 h=>optE h (fun e22 h=>?_) (fun x32 e22 h=>?_)
                · exact have cM7 := TM_none e22 (Q_PathTo_nil_c e21); t_call0 J cM7 (CoL.refl _) .nil J J<|ARun.qv (q_eqlN J J) J<|r_callp J (L_when_c J) (CoL.refl _) J<|rA J J<|rN<|ATodo.stop<|ImpX.lq [2,1,0] ⟨(L_when true (8 : Int)),h,J⟩ J J
                · exact have cM8 := TM_some e22 (Q_PathTo_nil_c e21); t_call1 J cM8 (CoL.refl _) .nil (fun _=>J) J fun b33=>bndE h fun v34 e23 h=>ARun.qv (q_eqlS (l := x32) J J e23) J<|r_callp J (L_when_c J) (CoL.refl _) J<|rA J J<|rN<|ATodo.stop<|ImpX.lq [3,2,1] ⟨(L_when false (8 : Int)),h,J⟩ J J
              · exact have h := iteF hc h; tK<|ATodo.stop<|ImpX.lq [2,1,0] ⟨v18,h,J⟩ J J
            · rintro σ' ⟨n30, h, rfl⟩
              unfold L_OrgsChecked_j3 at h
              refine tS<|ATodo.cut (fun σ'=>∃ (c35 : Bool),L_OrgsChecked_j4 c35 = some r ∧ σ' = ⟨137,[(2,.bool c35)],[]⟩) ?_ ?_
              · refine tR<|rM J J<|rM J J<|ARun.qv (q_eql J J) J<|rM J J<|ARun.guard_dt J J J (fun hc=>?_) (fun hc=>?_)
                · refine have h := iteT hc h; rM J J<|rY J J J<|rM J J<|rY J J J<|ARun.qv (q_eql J J) J<|rT J J J<|rM J J<|ARun.guard_dt J J J (fun hc=>?_) (fun hc=>?_)
                  · refine have h := iteT hc h; rM J J<|rY J J J<|ARun.qv (q_neq J J) J<|rY J J J<|rM J J<|ARun.guard_df J J J (fun hc=>?_) (fun hc=>?_)
                    · refine have h := iteF hc h; rM J J<|rY J J J<|ARun.qv (q_load_ptr_all J J .p0 J) J<|rY J J J<|rM J J<|rY J J J<|bndE h fun v36 e24 h=>r_callp J (Q_PathTo_c e24) (CoL.refl _) J<|rY J J J<|bndE h fun v37 e25 h=>r_callpB J (slices_Equal_string_string_c e25) (.cons (CoB.arrT .p1) (.cons (.co (.refl _)) .nil)) J J<|rY J J J<|rM J J<|ARun.guard J J J (fun hc=>?_) (fun hc=>?_)
                      · refine have h := iteT hc h; rM J J<|rY J J J<|ARun.qv (q_load_ptr_all J J .p0 J) J<|rY J J J<|rM J J<|rY J J J<|bndE h fun v38 e26 h=>t_call1 J (Q_BelowOf_c e26) (CoL.refl _) .nil (fun _=>J) J fun b39=>rY J J J<|bndE h fun v40 e27 h=>r_callpB J (slices_Equal_string_string_c e27) (.cons (CoB.arrT .p3) (.cons (CoB.arrT .p0) .nil)) J J<|rY J J J<|rT J J J<|rY J J J<|rE J J J<|rT J J J<|rM J J<|ARun.guard J J J (fun hc=>?_) (fun hc=>?_)
                        · exact have h := iteT hc h; bndE h fun v41 e28 h=>r_callp J (L_tenanted_c e28) (CoL.refl _) J<|rT J J J<|rA J J<|rN<|ATodo.stop<|ImpX.lq [] ⟨v41,h,J⟩ J J
                        · exact have h := iteFb hc h; rE J J J<|rA J J<|rN<|ATodo.stop<|ImpX.lq [] ⟨false,h,J⟩ J J
                      · exact have h := iteFb hc h; rG J J J J<|rG J J J J<|rG J J J J<|rG J J J J<|rY J J J<|rE J J J<|rY J J J<|rE J J J<|rT J J J<|rM J J<|rG J J J J<|rE J J J<|rA J J<|rN<|ATodo.stop<|ImpX.lq [] ⟨false,h,J⟩ J J
                    · exact have h := iteT hc h; rG J J J J<|rG J J J J<|rG J J J J<|rG J J J J<|rG J J J J<|ARun.guard_und J J J<|ARun.guard_und J J J<|ARun.guard_und J J J<|ARun.guard_und J J J<|ARun.guard_und J J J<|rG J J J J<|rY J J J<|rT J J J<|rT J J J<|rM J J<|rY J J J<|bndE h fun v42 e29 h=>r_callp J (L_tenanted_c e29) (CoL.refl _) J<|rT J J J<|rA J J<|rN<|ATodo.stop<|ImpX.lq [] ⟨v42,h,J⟩ J J
                  · exact have h := iteF hc h; rG J J J J<|rG J J J J<|ARun.guard_und J J J<|ARun.guard_und J J J<|ARun.guard_und J J J<|ARun.guard_und J J J<|ARun.guard_und J J J<|ARun.guard_und J J J<|ARun.guard_und J J J<|ARun.guard_und J J J<|ARun.guard_und J J J<|ARun.guard_und J J J<|ARun.guard_und J J J<|ARun.guard_und J J J<|rG J J J J<|rE J J J<|rM J J<|rG J J J J<|rE J J J<|rA J J<|rN<|ATodo.stop<|ImpX.lq [] ⟨false,h,J⟩ J J
                · exact have h := iteF hc h; rG J J J J<|rG J J J J<|rE J J J<|rM J J<|rG J J J J<|rG J J J J<|rG J J J J<|ARun.guard_und J J J<|ARun.guard_und J J J<|ARun.guard_und J J J<|ARun.guard_und J J J<|ARun.guard_und J J J<|ARun.guard_und J J J<|ARun.guard_und J J J<|ARun.guard_und J J J<|ARun.guard_und J J J<|ARun.guard_und J J J<|ARun.guard_und J J J<|ARun.guard_und J J J<|rG J J J J<|rE J J J<|rM J J<|rG J J J J<|rE J J J<|rA J J<|rN<|ATodo.stop<|ImpX.lq [] ⟨false,h,J⟩ J J
              · rintro σ' ⟨c35, h, rfl⟩
                unfold L_OrgsChecked_j4 at h
                refine ATodo.ret<|?_
                obtain rfl := Option.some.inj h
                exact ImpX.here ⟨_,.cons (.tmp _ _ J) .nil,J⟩

end Go.Proofs.YtohnopfmfehhkaaGreatDoor

