/- The code computes the plain functions: proofs written by shal.py. -/
import Derived.Test.YtohnopfmfehhkaaGreatDoorOrgW1
set_option maxHeartbeats 4000000
set_option maxRecDepth 100000
set_option linter.unusedVariables false
set_option linter.unusedSimpArgs false
namespace Go.Proofs.YtohnopfmfehhkaaGreatDoor
open Go Go.Eng Go.Proofs Go.Beacon
attribute [local irreducible] ARun ATodo AQ QV ACall ImpX AWp AM
theorem Q_rolesFault_c {p0x0 : Org} {r : Int} (h : Q_rolesFault p0x0 = some r) : Pu Tryz.prog 68 [.agg [.list 2 (p0x0.Tenants.map Tenant.av),.list 2 (p0x0.Roles.map Role.av),.list 3 (p0x0.Members.map Member.av),.list 17 (p0x0.Shares.map Share.av)]] (I r) := by
  unfold Q_rolesFault at h
  refine ACall.bodyN Tryz.func68 J Tryz.ntmps68 Tryz.results68 J J ?_
  refine tSR<|n_box J J J J fun b1=>rA J J<|rN<|tS<|tSR<|rF J J J<|rL J J .p0 J J<|ARun.qv (t_len J) J<|ARun.qv (q_gtr J J) J<|rN<|ATodo.cond_d J (fun hc=>?_) (fun hc=>?_)
  · refine have h := iteT hc h; tSR<|rA J J<|rN<|ATodo.ret<|?_
    obtain rfl := Option.some.inj h
    exact ImpX.here ⟨_,.cons (.tmp _ _ J) .nil,J⟩
  · refine have h := iteF hc h; tK<|tS<|tSR<|rF J J J<|rL J J .p0 J J<|ARun.qv (t_len J) J<|rM J J<|rN<|ATodo.block<|ATodo.loopI (fun x : Int=>Q_rolesFault_b1 p0x0 x) (fun x σ'=>σ' = ⟨114,[(1,.ptr b1 0),(13,.list 2 (p0x0.Roles.map Role.av)),(14,I (p0x0.Roles.length : Int)),(15,I x)],[(b1,.cells [.list 2 (p0x0.Tenants.map Tenant.av),.list 2 (p0x0.Roles.map Role.av),.list 3 (p0x0.Members.map Member.av),.list 17 (p0x0.Shares.map Share.av)])]⟩) h ?_ ?_
    · exact ImpX.lq [0] J J J
    · intro n3 z1 σ' J1 hmk h hJ1 hA1
      obtain rfl := hmk
      replace h : Q_rolesFault_b1 p0x0 n3 = some z1 := h
      unfold Q_rolesFault_b1 at h
      refine tSR<|ARun.qv (q_lss J J) J<|rN<|tS<|ATodo.cond_d J (fun hc=>?_) (fun hc=>?_)
      · refine have h := iteT hc h; tK<|tS<|ATodo.block<|tSR<|rM J J<|bndE h fun v4 e1 h=>ARun.qv (t_index J J J e1 J J) J<|ARun.qv (q_load_rptr_agg J J J) J<|n_alloc J J J J fun b5=>rA J J<|n_store_ptr J J J J .p0 J J<|rN<|tS<|tSR<|rF J J J<|rL J J .p0 J J<|bndE h fun v6 e2 h=>r_callp J (Q_Key_c e2) (CoL.refl _) J<|ARun.qv (q_not J) J<|rN<|ATodo.cond J (fun hc=>?_) (fun hc=>?_)
        · refine have h := iteT hc h; tSR<|rA J J<|rN<|ATodo.ret<|have h := outL h hA1; ?_
          obtain rfl := Option.some.inj h
          exact ImpX.here ⟨_,.cons (.tmp _ _ J) .nil,J⟩
        · refine have h := iteFb hc h; tK<|tS<|tS<|ATodo.cut (fun σ'=>∃ (c7 : Bool),Q_rolesFault_j1 n3 v4 c7 = some z1 ∧ σ' = ⟨114,[(1,.ptr b1 0),(4,.ptr b5 0),(13,.list 2 (p0x0.Roles.map Role.av)),(14,I (p0x0.Roles.length : Int)),(15,I n3),(37,.bool c7)],[(b1,.cells [.list 2 (p0x0.Tenants.map Tenant.av),.list 2 (p0x0.Roles.map Role.av),.list 3 (p0x0.Members.map Member.av),.list 17 (p0x0.Shares.map Share.av)]),(b5,.cells [.str v4.Key,.list 1 (v4.Acts.map AV.str)])]⟩) ?_ ?_
          · refine ATodo.regionM (id := 8) (A := [0,1,3,7,15,7,39,7,135,487,999,2023,4095,8191]) 14 mixed J (by kernel_rfl) (by kernel_rfl)<|AM.qv (q_move J) J<|AM.qv (q_gtr J J) J<|AM.qv (q_move J) J<|AM.guard_dt J J J (fun hc=>?_) (fun hc=>?_)
            · exact have h := iteT hc h; AM.qv (n_field_ptr J J) J<|AM.guard_yes J J J<|AM.qv (q_load_ptr J J .p0 J) J<|AM.guard_yes J J J<|AM.qv (n_field_ptr J J) J<|AM.guard_yes J J J<|AM.qv (q_load_ptr J J .p1 J) J<|AM.guard_yes J J J<|AM.qv (q_move J) J<|AM.guard_yes J J J<|AM.qv (q_subw J J) J<|AM.guard_yes J J J<|bndE h fun v8 e3 h=>AM.qv (t_index J J J e3 J J) J<|AM.guard_yes J J J<|AM.qv (n_field_rptr J J) J<|AM.guard_yes J J J<|AM.qv (q_load_rptr J J J) J<|AM.guard_yes J J J<|AM.qv (t_sleq J J) J<|AM.qv (q_pick_t J J) J<|AM.nil<|rN<|ATodo.stop<|ImpX.lq [1,0] ⟨Op.bytesLess v4.Key v8.Key || v4.Key == v8.Key,h,J⟩ J J
            · exact have h := iteF hc h; AM.guard_no J J J J<|AM.guard_no J J J J<|AM.guard_no J J J J<|AM.guard_no J J J J<|AM.guard_no J J J J<|AM.guard_no J J J J<|AM.guard_no J J J J<|AM.guard_no J J J J<|AM.guard_no J J J J<|AM.qv (q_pick_f J J) J<|AM.nil<|rN<|ATodo.stop<|ImpX.lq [1,0] ⟨false,h,J⟩ J J
          · rintro σ' ⟨c7, h, rfl⟩
            unfold Q_rolesFault_j1 at h
            refine ATodo.cond J (fun hc=>?_) (fun hc=>?_)
            · refine have h := iteT hc h; tSR<|rA J J<|rN<|ATodo.ret<|have h := outL h hA1; ?_
              obtain rfl := Option.some.inj h
              exact ImpX.here ⟨_,.cons (.tmp _ _ J) .nil,J⟩
            · refine have h := iteFb hc h; tK<|tSR<|rF J J J<|rL J J .p1 J J<|bndE h fun v9 e4 h=>r_callp J (Q_someActs_c e4) (CoL.refl _) J<|rA J J<|rN<|tSR<|rM J J<|ARun.qv (q_neq J J) J<|rN<|ATodo.cond_d J (fun hc=>?_) (fun hc=>?_)
              · refine have h := iteT hc h; tSR<|rM J J<|rA J J<|rN<|ATodo.ret<|have h := outL h hA1; ?_
                obtain rfl := Option.some.inj h
                exact ImpX.here ⟨_,.cons (.tmp _ _ J) .nil,J⟩
              · refine have h := iteF hc h; tK<|ATodo.blk<|tR<|ARun.qv (q_addw J J) J<|rM J J<|rN<|ATodo.stop<|?_
                obtain rfl := Option.some.inj h
                exact hJ1 _ _ J<|ImpX.lq [0] J J J
      · refine have h := iteF hc h; ATodo.exit J<|have h := outL h hA1; ?_
        unfold Q_rolesFault_k4 at h
        refine tS<|tSR<|rF J J J<|rL J J .p0 J J<|ARun.qv (t_len J) J<|ARun.qv (q_gtr J J) J<|rN<|ATodo.cond_d J (fun hc=>?_) (fun hc=>?_)
        · refine have h := iteT hc h; tSR<|rA J J<|rN<|ATodo.ret<|?_
          obtain rfl := Option.some.inj h
          exact ImpX.here ⟨_,.cons (.tmp _ _ J) .nil,J⟩
        · refine have h := iteF hc h; tK<|tS<|tSR<|rF J J J<|rL J J .p0 J J<|ARun.qv (t_len J) J<|rM J J<|rN<|ATodo.block<|ATodo.loopI (fun x : Int=>Q_rolesFault_b2 p0x0 x) (fun x σ'=>σ' = ⟨114,[(1,.ptr b1 0),(50,.list 3 (p0x0.Members.map Member.av)),(51,I (p0x0.Members.length : Int)),(52,I x)],[(b1,.cells [.list 2 (p0x0.Tenants.map Tenant.av),.list 2 (p0x0.Roles.map Role.av),.list 3 (p0x0.Members.map Member.av),.list 17 (p0x0.Shares.map Share.av)])]⟩) h ?_ ?_
          · exact ImpX.lq [0] J J J
          · intro n11 z2 σ' J2 hmk h hJ2 hA2
            obtain rfl := hmk
            replace h : Q_rolesFault_b2 p0x0 n11 = some z2 := h
            unfold Q_rolesFault_b2 at h
            refine tSR<|ARun.qv (q_lss J J) J<|rN<|tS<|ATodo.cond_d J (fun hc=>?_) (fun hc=>?_)
            · refine have h := iteT hc h; tK<|tS<|ATodo.block<|tSR<|rM J J<|bndE h fun v12 e5 h=>ARun.qv (t_index J J J e5 J J) J<|ARun.qv (q_load_rptr_agg J J J) J<|n_alloc J J J J fun b13=>rA J J<|n_store_ptr J J J J .p0 J J<|rN<|ATodo.block<|tSR<|rF J J J<|rL J J .p0 J J<|bndE h fun v14 e6 h=>r_callp J (Q_Key_c e6) (CoL.refl _) J<|ARun.qv (q_not J) J<|rA J J<|rN<|ATodo.cond J (fun hc=>?_) (fun hc=>?_)
              · refine have h := iteT hc h; tSR<|rA J J<|rN<|ATodo.ret<|have h := outL h hA2; ?_
                obtain rfl := Option.some.inj h
                exact ImpX.here ⟨_,.cons (.tmp _ _ J) .nil,J⟩
              · refine have h := iteFb hc h; tS<|ATodo.cut (fun σ'=>∃ (c15 : Bool),Q_rolesFault_j2 p0x0 n11 v12 c15 = some z2 ∧ σ' = ⟨114,[(1,.ptr b1 0),(6,I n11),(7,.ptr b13 0),(50,.list 3 (p0x0.Members.map Member.av)),(51,I (p0x0.Members.length : Int)),(52,I n11),(62,.bool c15)],[(b1,.cells [.list 2 (p0x0.Tenants.map Tenant.av),.list 2 (p0x0.Roles.map Role.av),.list 3 (p0x0.Members.map Member.av),.list 17 (p0x0.Shares.map Share.av)]),(b13,.cells [.str v12.User,.str v12.Tenant,.str v12.Role])]⟩) ?_ ?_
                · refine tR<|ARun.qv (q_load_ptr_all J J .p1 J) J<|rF J J J<|rL J J .p0 J J<|bndE h fun v16 e7 h=>r_callp J (Q_tenantAt_c e7) (CoL.refl _) J<|ARun.qv (q_lss J J) J<|rM J J<|ARun.guard_df J J J (fun hc=>?_) (fun hc=>?_)
                  · exact have h := iteF hc h; ARun.qv (q_load_ptr_all J J .p1 J) J<|rY J J J<|rF J J J<|rY J J J<|rL J J .p0 J J<|rY J J J<|bndE h fun v17 e8 h=>r_callp J (Q_roleAt_c e8) (CoL.refl _) J<|rY J J J<|ARun.qv (q_lss J J) J<|rE J J J<|rA J J<|rN<|ATodo.stop<|ImpX.lq [1,0] ⟨decide (v17 < (0 : Int)),h,J⟩ J J
                  · exact have h := iteT hc h; rG J J J J<|rG J J J J<|rG J J J J<|rG J J J J<|rT J J J<|rA J J<|rN<|ATodo.stop<|ImpX.lq [1,0] ⟨true,h,J⟩ J J
                · rintro σ' ⟨c15, h, rfl⟩
                  unfold Q_rolesFault_j2 at h
                  refine ATodo.cond J (fun hc=>?_) (fun hc=>?_)
                  · refine have h := iteT hc h; tSR<|rA J J<|rN<|ATodo.ret<|have h := outL h hA2; ?_
                    obtain rfl := Option.some.inj h
                    exact ImpX.here ⟨_,.cons (.tmp _ _ J) .nil,J⟩
                  · refine have h := iteFb hc h; tS<|ATodo.cut (fun σ'=>∃ (c18 : Bool),Q_rolesFault_j3 n11 c18 = some z2 ∧ σ' = ⟨114,[(1,.ptr b1 0),(50,.list 3 (p0x0.Members.map Member.av)),(51,I (p0x0.Members.length : Int)),(52,I n11),(75,.bool c18)],[(b1,.cells [.list 2 (p0x0.Tenants.map Tenant.av),.list 2 (p0x0.Roles.map Role.av),.list 3 (p0x0.Members.map Member.av),.list 17 (p0x0.Shares.map Share.av)])]⟩) ?_ ?_
                    · refine ATodo.regionM (id := 23) (A := [0,1,3,7,15,7,39,127,255,511,7,1031,4095,7,8199,7,32775,122887,253959,516103,7,1048583,4194303,7,8388615,7,33554439,125829127,260046855,528482311,7,1073741831,4294967295,8589934591,17179869183,34359738367,68719476735,137438953471]) 38 mixed J (by kernel_rfl) (by kernel_rfl)<|AM.qv (q_move J) J<|AM.qv (q_gtr J J) J<|AM.qv (q_move J) J<|AM.guard_dt J J J (fun hc=>?_) (fun hc=>?_)
                      · exact have h := iteT hc h; AM.qv (n_field_ptr J J) J<|AM.guard_yes J J J<|AM.qv (q_load_ptr J J .p0 J) J<|AM.guard_yes J J J<|AM.qv (q_move J) J<|AM.guard_yes J J J<|AM.qv (q_subw J J) J<|AM.guard_yes J J J<|bndE h fun v19 e9 h=>AM.qv (t_index J J J e9 J J) J<|AM.guard_yes J J J<|AM.qv (n_field_rptr J J) J<|AM.guard_yes J J J<|AM.qv (q_load_rptr J J J) J<|AM.guard_yes J J J<|AM.qv (n_field_ptr J J) J<|AM.guard_yes J J J<|AM.qv (q_load_ptr J J .p1 J) J<|AM.guard_yes J J J<|AM.callp J (strings_Compare_c J) (CoL.refl _) J<|AM.guard_yes J J J<|AM.qv (n_field_ptr J J) J<|AM.guard_yes J J J<|AM.qv (q_load_ptr J J .p0 J) J<|AM.guard_yes J J J<|AM.qv (q_move J) J<|AM.guard_yes J J J<|AM.qv (q_subw J J) J<|AM.guard_yes J J J<|bndE h fun v20 e10 h=>AM.qv (t_index J J J e10 J J) J<|AM.guard_yes J J J<|AM.qv (n_field_rptr J J) J<|AM.guard_yes J J J<|AM.qv (q_load_rptr J J J) J<|AM.guard_yes J J J<|AM.qv (n_field_ptr J J) J<|AM.guard_yes J J J<|AM.qv (q_load_ptr J J .p1 J) J<|AM.guard_yes J J J<|AM.callp J (strings_Compare_c J) (CoL.refl _) J<|AM.guard_yes J J J<|AM.qv (n_field_ptr J J) J<|AM.guard_yes J J J<|AM.qv (q_load_ptr J J .p0 J) J<|AM.guard_yes J J J<|AM.qv (q_move J) J<|AM.guard_yes J J J<|AM.qv (q_subw J J) J<|AM.guard_yes J J J<|bndE h fun v21 e11 h=>AM.qv (t_index J J J e11 J J) J<|AM.guard_yes J J J<|AM.qv (n_field_rptr J J) J<|AM.guard_yes J J J<|AM.qv (q_load_rptr J J J) J<|AM.guard_yes J J J<|AM.qv (n_field_ptr J J) J<|AM.guard_yes J J J<|AM.qv (q_load_ptr J J .p1 J) J<|AM.guard_yes J J J<|AM.callp J (strings_Compare_c J) (CoL.refl _) J<|AM.guard_yes J J J<|AM.buildSliceL (xs := ([(Lib.compareBytes v19.User v12.User),(Lib.compareBytes v20.Tenant v12.Tenant),(Lib.compareBytes v21.Role v12.Role)] : List Int).map I) J J J J J J<|AM.guard_yes J J J<|bndE h fun v22 e12 h=>AM.callp J (cmp_Or_int_c e12) (CoL.refl _) J<|AM.guard_yes J J J<|AM.qv (q_geq J J) J<|AM.qv (q_pick_t J J) J<|AM.qv (q_assign J) J<|AM.nil<|rN<|ATodo.stop<|ImpX.lq [0] ⟨decide ((0 : Int) ≤ v22),h,J⟩ J J
                      · exact have h := iteF hc h; AM.guard_no J J J J<|AM.guard_no J J J J<|AM.guard_no J J J J<|AM.guard_no J J J J<|AM.guard_no J J J J<|AM.guard_no J J J J<|AM.guard_no J J J J<|AM.guard_no J J J J<|AM.guard_no J J J J<|AM.guard_no J J J J<|AM.guard_no J J J J<|AM.guard_no J J J J<|AM.guard_no J J J J<|AM.guard_no J J J J<|AM.guard_no J J J J<|AM.guard_no J J J J<|AM.guard_no J J J J<|AM.guard_no J J J J<|AM.guard_no J J J J<|AM.guard_no J J J J<|AM.guard_no J J J J<|AM.guard_no J J J J<|AM.guard_no J J J J<|AM.guard_no J J J J<|AM.guard_no J J J J<|AM.guard_no J J J J<|AM.guard_no J J J J<|AM.guard_no J J J J<|AM.guard_no J J J J<|AM.guard_no J J J J<|AM.guard_no J J J J<|AM.guard_no J J J J<|AM.qv (q_pick_f J J) J<|AM.qv (q_assign J) J<|AM.nil<|rN<|ATodo.stop<|ImpX.lq [0] ⟨false,h,J⟩ J J
                    · rintro σ' ⟨c18, h, rfl⟩
                      unfold Q_rolesFault_j3 at h
                      refine ATodo.cond J (fun hc=>?_) (fun hc=>?_)
                      · refine have h := iteT hc h; tSR<|rA J J<|rN<|ATodo.ret<|have h := outL h hA2; ?_
                        obtain rfl := Option.some.inj h
                        exact ImpX.here ⟨_,.cons (.tmp _ _ J) .nil,J⟩
                      · refine have h := iteFb hc h; tK<|ATodo.blk<|ATodo.blk<|tR<|ARun.qv (q_addw J J) J<|rM J J<|rN<|ATodo.stop<|?_
                        obtain rfl := Option.some.inj h
                        exact hJ2 _ _ J<|ImpX.lq [0] J J J
            · refine have h := iteF hc h; ATodo.exit J<|have h := outL h hA2; tSR<|rA J J<|rN<|ATodo.ret<|?_
              obtain rfl := Option.some.inj h
              exact ImpX.here ⟨_,.cons (.tmp _ _ J) .nil,J⟩

theorem Q_leaves_bd_c [GI : GTab] {self : Query → Option (List Query)} (self_h : ∀ {p0x0 : Query} {r : (List Query)},self p0x0 = some r → ACall Tryz.prog 120 [.agg [I p0x0.Kind,.str p0x0.Field,.str p0x0.Op,I p0x0.Value.Kind,.bool p0x0.Value.Flag,I p0x0.Value.Number,.str p0x0.Value.Words,I p0x0.Version.Major,I p0x0.Version.Minor,I p0x0.Version.Patch,.list 11 (p0x0.Kids.map Query.av)]] [] (T1 (fun d_0=>[(d_0,.arr 11 (r.map Query.av))]) (fun d_0=>.sl 11 d_0 0 r.length))) {p0x0 : Query} {r : (List Query)} (h : Q_leaves_bd self p0x0 = some r) : ACall Tryz.prog 120 [.agg [I p0x0.Kind,.str p0x0.Field,.str p0x0.Op,I p0x0.Value.Kind,.bool p0x0.Value.Flag,I p0x0.Value.Number,.str p0x0.Value.Words,I p0x0.Version.Major,I p0x0.Version.Minor,I p0x0.Version.Patch,.list 11 (p0x0.Kids.map Query.av)]] [] (T1 (fun d_0=>[(d_0,.arr 11 (r.map Query.av))]) (fun d_0=>.sl 11 d_0 0 r.length)) := by
  unfold Q_leaves_bd at h
  refine ACall.lessH ?_
  refine ACall.bodyN Tryz.func120 J Tryz.ntmps120 Tryz.results120 J J ?_
  refine tSR<|n_box J J J J fun b1=>rA J J<|rN<|tSR<|rA J J<|rN<|tS<|tS<|ATodo.cut (fun σ'=>∃ (c2 : Bool),Q_leaves_j1 self p0x0 c2 = some r ∧ σ' = ⟨31,[(1,.ptr b1 0),(3,.nil),(13,.bool c2)],[(b1,.cells [I p0x0.Kind,.str p0x0.Field,.str p0x0.Op,I p0x0.Value.Kind,.bool p0x0.Value.Flag,I p0x0.Value.Number,.str p0x0.Value.Words,I p0x0.Version.Major,I p0x0.Version.Minor,I p0x0.Version.Patch,.list 11 (p0x0.Kids.map Query.av)])]⟩) ?_ ?_
  · refine tR<|rF J J J<|rL J J .p0 J J<|ARun.qv (q_eql J J) J<|rM J J<|ARun.guard_df J J J (fun hc=>?_) (fun hc=>?_)
    · rw [orFd hc] at h
      exact rF J J J<|rY J J J<|rL J J .p0 J J<|rY J J J<|ARun.qv (q_eql J J) J<|rE J J J<|rN<|ATodo.stop<|ImpX.lq [0] ⟨decide (p0x0.Kind = (2 : Int)),h,J⟩ J J
    · rw [orTd hc] at h
      exact rG J J J J<|rG J J J J<|rT J J J<|rN<|ATodo.stop<|ImpX.lq [0] ⟨true,h,J⟩ J J
  · rintro σ' ⟨c2, h, rfl⟩
    unfold Q_leaves_j1 at h
    refine ATodo.cut (fun σ'=>∃ (b3 : Bk) (l4 : List Query),Q_leaves_j2 self p0x0 l4 = some r ∧ σ' = ⟨31,[(1,.ptr b1 0),(3,.sl 11 b3 0 l4.length)],[(b1,.cells [I p0x0.Kind,.str p0x0.Field,.str p0x0.Op,I p0x0.Value.Kind,.bool p0x0.Value.Flag,I p0x0.Value.Number,.str p0x0.Value.Words,I p0x0.Version.Major,I p0x0.Version.Minor,I p0x0.Version.Patch,.list 11 (p0x0.Kids.map Query.av)]),(b3,.arr 11 (l4.map Query.av))]⟩) ?_ ?_
    · refine ATodo.cond J (fun hc=>?_) (fun hc=>?_)
      · exact have h := iteT hc h; tR<|rM J J<|ARun.qv (q_load_ptr_all J J .p0 J) J<|n_buildSliceL (xs := ([p0x0] : List Query).map Query.av) J (by simp only [List.map_cons,List.map_nil,Query.av_eq]; rfl) J (by simp only [List.map_cons,List.map_nil,Query.av_eq]; rfl) J J<|bndE h fun l5 e1 h=>t_append0 (g := Query.av) J J J J J J J J (.list _) e1 fun b6=>rA J J<|rN<|ATodo.stop<|ImpX.lq [1,0] ⟨b6,l5,h,J⟩ J J
      · exact have h := iteFb hc h; tK<|ATodo.stop<|ImpX.arr (s := 3) 11 J fun b7=>ImpX.lq [1,0] ⟨b7,[],h,J⟩ J J
    · rintro σ' ⟨b3, l4, h, rfl⟩
      unfold Q_leaves_j2 at h
      refine tS<|tSR<|rF J J J<|rL J J .p0 J J<|ARun.qv (t_len J) J<|rM J J<|rN<|ATodo.block<|ATodo.loopI (fun x : (List Query) × Int=>Q_leaves_b1 self p0x0 x.1 x.2) (fun x σ'=>∃ (b11 : Bk),σ' = ⟨31,[(3,.sl 11 b11 0 x.1.length),(19,.list 11 (p0x0.Kids.map Query.av)),(20,I (p0x0.Kids.length : Int)),(21,I x.2)],[(b11,.arr 11 (x.1.map Query.av))]⟩) h ?_ ?_
      · exact ImpX.lq [1] ⟨b3,J⟩ J J
      · intro x z1 σ' J1 hmk h hJ1 hA1
        obtain ⟨l12, n13⟩ := x
        obtain ⟨b11, rfl⟩ := hmk
        replace h : Q_leaves_b1 self p0x0 l12 n13 = some z1 := h
        unfold Q_leaves_b1 at h
        refine tSR<|ARun.qv (q_lss J J) J<|rN<|tS<|ATodo.cond_d J (fun hc=>?_) (fun hc=>?_)
        · refine have h := iteT hc h; tK<|tS<|ATodo.block<|tSR<|bndE h fun v14 e2 h=>ARun.qv (t_index J J J e2 J (by rw [Query.av_eq]; rfl)) J<|ARun.qv (q_load_rptr_agg J J J) J<|n_alloc J J J J fun b15=>n_store_ptr J J J J .p0 J J<|rN<|tR<|rM J J<|ARun.qv (q_load_ptr_all J J .p0 J) J<|bndE h fun v16 e3 h=>t_call1 J (self_h e3) (CoL.refl _) .nil (fun _=>J) J fun b17=>bndE h fun l18 e4 h=>t_append (g := Query.av) J J J J J J J J (bound_src (.inl .p0) J) e4 (fun _=>.p2) J fun b19=>rA J J<|rN<|ATodo.blk<|tR<|ARun.qv (q_addw J J) J<|rM J J<|rN<|ATodo.stop<|?_
          obtain rfl := Option.some.inj h
          exact hJ1 _ _ J<|ImpX.lq [2] ⟨b19,J⟩ J J
        · refine have h := iteF hc h; ATodo.exit J<|have h := outL h hA1; tSR<|rM J J<|rA J J<|rN<|ATodo.ret<|?_
          obtain rfl := Option.some.inj h
          exact ImpX.here ⟨_,.cons (.tmp _ _ J) .nil,_,.cons .p0 .nil,⟨b11,J,J⟩⟩
theorem Q_leaves_r_c [GI : GTab] : ∀ (k : Nat) {p0x0 : Query} {r : (List Query)},Q_leaves_r k p0x0 = some r → ACall Tryz.prog 120 [.agg [I p0x0.Kind,.str p0x0.Field,.str p0x0.Op,I p0x0.Value.Kind,.bool p0x0.Value.Flag,I p0x0.Value.Number,.str p0x0.Value.Words,I p0x0.Version.Major,I p0x0.Version.Minor,I p0x0.Version.Patch,.list 11 (p0x0.Kids.map Query.av)]] [] (T1 (fun d_0=>[(d_0,.arr 11 (r.map Query.av))]) (fun d_0=>.sl 11 d_0 0 r.length)) := by
  intro k
  induction k with
  | zero=>intro p0x0 r h; cases h
  | succ k ih=>intro p0x0 r h; exact Q_leaves_bd_c ih h
theorem Q_leaves_c [GI : GTab] {p0x0 : Query} {r : (List Query)} (h : Q_leaves p0x0 = some r) : ACall Tryz.prog 120 [.agg [I p0x0.Kind,.str p0x0.Field,.str p0x0.Op,I p0x0.Value.Kind,.bool p0x0.Value.Flag,I p0x0.Value.Number,.str p0x0.Value.Words,I p0x0.Version.Major,I p0x0.Version.Minor,I p0x0.Version.Patch,.list 11 (p0x0.Kids.map Query.av)]] [] (T1 (fun d_0=>[(d_0,.arr 11 (r.map Query.av))]) (fun d_0=>.sl 11 d_0 0 r.length)) := Q_leaves_r_c depth h

theorem Q_deep_bd_c [GI : GTab] {self : Query → Option Int} (self_h : ∀ {p0x0 : Query} {r : Int},self p0x0 = some r → Pu Tryz.prog 121 [.agg [I p0x0.Kind,.str p0x0.Field,.str p0x0.Op,I p0x0.Value.Kind,.bool p0x0.Value.Flag,I p0x0.Value.Number,.str p0x0.Value.Words,I p0x0.Version.Major,I p0x0.Version.Minor,I p0x0.Version.Patch,.list 11 (p0x0.Kids.map Query.av)]] (I r)) {p0x0 : Query} {r : Int} (h : Q_deep_bd self p0x0 = some r) : Pu Tryz.prog 121 [.agg [I p0x0.Kind,.str p0x0.Field,.str p0x0.Op,I p0x0.Value.Kind,.bool p0x0.Value.Flag,I p0x0.Value.Number,.str p0x0.Value.Words,I p0x0.Version.Major,I p0x0.Version.Minor,I p0x0.Version.Patch,.list 11 (p0x0.Kids.map Query.av)]] (I r) := by
  unfold Q_deep_bd at h
  refine ACall.bodyN Tryz.func121 J Tryz.ntmps121 Tryz.results121 J J ?_
  refine tSR<|n_box J J J J fun b1=>rA J J<|rN<|tSR<|rA J J<|rN<|tS<|tSR<|rF J J J<|rL J J .p0 J J<|ARun.qv (t_len J) J<|rM J J<|rN<|ATodo.block<|ATodo.loopI (fun x : Int × Int=>Q_deep_b1 self p0x0 x.1 x.2) (fun x σ'=>σ' = ⟨20,[(3,I x.1),(7,.list 11 (p0x0.Kids.map Query.av)),(8,I (p0x0.Kids.length : Int)),(9,I x.2)],[]⟩) h ?_ ?_
  · exact ImpX.lq [] J J J
  · intro x z1 σ' J1 hmk h hJ1 hA1
    obtain ⟨n4, n5⟩ := x
    obtain rfl := hmk
    replace h : Q_deep_b1 self p0x0 n4 n5 = some z1 := h
    unfold Q_deep_b1 at h
    refine tSR<|ARun.qv (q_lss J J) J<|rN<|tS<|ATodo.cond_d J (fun hc=>?_) (fun hc=>?_)
    · refine have h := iteT hc h; tK<|tS<|ATodo.block<|tSR<|bndE h fun v6 e1 h=>ARun.qv (t_index J J J e1 J (by rw [Query.av_eq]; rfl)) J<|ARun.qv (q_load_rptr_agg J J J) J<|n_alloc J J J J fun b7=>n_store_ptr J J J J .p0 J J<|rN<|tR<|rM J J<|ARun.qv (q_load_ptr_all J J .p0 J) J<|bndE h fun v8 e2 h=>r_callp J (self_h e2) (CoL.refl _) J<|ARun.qv (q_max J J) J<|rA J J<|rN<|ATodo.blk<|tR<|ARun.qv (q_addw J J) J<|rM J J<|rN<|ATodo.stop<|?_
      obtain rfl := Option.some.inj h
      exact hJ1 _ _ J<|ImpX.lq [] J J J
    · refine have h := iteF hc h; ATodo.exit J<|have h := outL h hA1; tSR<|rM J J<|ARun.qv (q_addw J J) J<|rA J J<|rN<|ATodo.ret<|?_
      obtain rfl := Option.some.inj h
      exact ImpX.here ⟨_,.cons (.tmp _ _ J) .nil,J⟩
theorem Q_deep_r_c [GI : GTab] : ∀ (k : Nat) {p0x0 : Query} {r : Int},Q_deep_r k p0x0 = some r → Pu Tryz.prog 121 [.agg [I p0x0.Kind,.str p0x0.Field,.str p0x0.Op,I p0x0.Value.Kind,.bool p0x0.Value.Flag,I p0x0.Value.Number,.str p0x0.Value.Words,I p0x0.Version.Major,I p0x0.Version.Minor,I p0x0.Version.Patch,.list 11 (p0x0.Kids.map Query.av)]] (I r) := by
  intro k
  induction k with
  | zero=>intro p0x0 r h; cases h
  | succ k ih=>intro p0x0 r h; exact Q_deep_bd_c ih h
theorem Q_deep_c [GI : GTab] {p0x0 : Query} {r : Int} (h : Q_deep p0x0 = some r) : Pu Tryz.prog 121 [.agg [I p0x0.Kind,.str p0x0.Field,.str p0x0.Op,I p0x0.Value.Kind,.bool p0x0.Value.Flag,I p0x0.Value.Number,.str p0x0.Value.Words,I p0x0.Version.Major,I p0x0.Version.Minor,I p0x0.Version.Patch,.list 11 (p0x0.Kids.map Query.av)]] (I r) := Q_deep_r_c depth h

theorem Q_oneQuery_1x_c [GI : GTab] {p0x0 : Query} {p1x0 : Query} {r : Bool} (h : Q_oneQuery_1x p0x0 p1x0 = r) : Pu Tryz.prog 179 [.agg [I p0x0.Kind,.str p0x0.Field,.str p0x0.Op,I p0x0.Value.Kind,.bool p0x0.Value.Flag,I p0x0.Value.Number,.str p0x0.Value.Words,I p0x0.Version.Major,I p0x0.Version.Minor,I p0x0.Version.Patch,.list 11 (p0x0.Kids.map Query.av)],.rptr [I p1x0.Kind,.str p1x0.Field,.str p1x0.Op,I p1x0.Value.Kind,.bool p1x0.Value.Flag,I p1x0.Value.Number,.str p1x0.Value.Words,I p1x0.Version.Major,I p1x0.Version.Minor,I p1x0.Version.Patch,.list 11 (p1x0.Kids.map Query.av)]] (.bool r) := by
  unfold Q_oneQuery_1x at h
  refine ACall.bodyN Tryz.func179 J Tryz.ntmps179 Tryz.results179 J J ?_
  refine tSR<|n_box J J J J fun b1=>rA J J<|rN<|tSR<|rF J J J<|rL J J .p0 J J<|ARun.qv (n_field_rptr J J) J<|ARun.qv (q_load_rptr J J J) J<|ARun.qv (q_eql J J) J<|rA J J<|rN<|ATodo.ret<|?_
  obtain rfl := h
  exact ImpX.here ⟨_,.cons (.tmp _ _ J) .nil,J⟩

theorem slices_IndexFunc_Query_Query_c [GI : GTab] {p0x0 : List Query} {fnb : Query → Option Bool} {fnb_F : FuncId} [IsFn Tryz.prog fnb_F] {fnb_C : List AV} (fnb_h : ∀ {y0 : _} {u : Bool},fnb y0 = some u → Pu Tryz.prog fnb_F (.agg [I y0.Kind,.str y0.Field,.str y0.Op,I y0.Value.Kind,.bool y0.Value.Flag,I y0.Value.Number,.str y0.Value.Words,I y0.Version.Major,I y0.Version.Minor,I y0.Version.Patch,.list 11 (y0.Kids.map Query.av)] ::  fnb_C) (.bool u)) {r : Int} (h : slices_IndexFunc_Query_Query p0x0 fnb = some r) : Pu Tryz.prog 184 [.list 11 (p0x0.map Query.av),.func (.func fnb_F) fnb_C] (I r) := by
  unfold slices_IndexFunc_Query_Query at h
  refine ACall.bodyN Tryz.func184 J Tryz.ntmps184 Tryz.results184 J J ?_
  refine tSR<|rA J J<|rN<|tS<|tSR<|rM J J<|ARun.qv (t_len J) J<|rM J J<|rN<|ATodo.block<|ATodo.loopI (fun x : Int=>slices_IndexFunc_Query_Query_b1 p0x0 fnb x) (fun x σ'=>σ' = ⟨19,[(0,.list 11 (p0x0.map Query.av)),(1,.func (.func fnb_F) fnb_C),(7,I (p0x0.length : Int)),(8,I x)],[]⟩) h ?_ ?_
  · exact ImpX.lq [] J J J
  · intro n2 z1 σ' J1 hmk h hJ1 hA1
    obtain rfl := hmk
    replace h : slices_IndexFunc_Query_Query_b1 p0x0 fnb n2 = some z1 := h
    unfold slices_IndexFunc_Query_Query_b1 at h
    refine tSR<|ARun.qv (q_lss J J) J<|rN<|tS<|ATodo.cond_d J (fun hc=>?_) (fun hc=>?_)
    · refine have h := iteT hc h; tK<|tS<|ATodo.block<|tSR<|rM J J<|rA J J<|rN<|tSR<|rM J J<|rM J J<|rM J J<|bndE h fun v3 e1 h=>ARun.qv (t_index J J J e1 J (by rw [Query.av_eq]; rfl)) J<|ARun.qv (q_load_rptr_agg J J J) J<|bndE h fun v4 e2 h=>r_callvp J J (fnb_h e2) (CoL.refl _) J<|rN<|ATodo.cond J (fun hc=>?_) (fun hc=>?_)
      · refine have h := iteT hc h; tSR<|rM J J<|rA J J<|rN<|ATodo.ret<|have h := outL h hA1; ?_
        obtain rfl := Option.some.inj h
        exact ImpX.here ⟨_,.cons (.tmp _ _ J) .nil,J⟩
      · refine have h := iteFb hc h; tK<|ATodo.blk<|tR<|ARun.qv (q_addw J J) J<|rM J J<|rN<|ATodo.stop<|?_
        obtain rfl := Option.some.inj h
        exact hJ1 _ _ J<|ImpX.lq [] J J J
    · refine have h := iteF hc h; ATodo.exit J<|have h := outL h hA1; tSR<|rA J J<|rN<|ATodo.ret<|?_
      obtain rfl := Option.some.inj h
      exact ImpX.here ⟨_,.cons (.tmp _ _ J) .nil,J⟩

theorem slices_ContainsFunc_Query_Query_c [GI : GTab] {p0x0 : List Query} {fnb : Query → Option Bool} {fnb_F : FuncId} [IsFn Tryz.prog fnb_F] {fnb_C : List AV} (fnb_h : ∀ {y0 : _} {u : Bool},fnb y0 = some u → Pu Tryz.prog fnb_F (.agg [I y0.Kind,.str y0.Field,.str y0.Op,I y0.Value.Kind,.bool y0.Value.Flag,I y0.Value.Number,.str y0.Value.Words,I y0.Version.Major,I y0.Version.Minor,I y0.Version.Patch,.list 11 (y0.Kids.map Query.av)] ::  fnb_C) (.bool u)) {r : Bool} (h : slices_ContainsFunc_Query_Query p0x0 fnb = some r) : Pu Tryz.prog 128 [.list 11 (p0x0.map Query.av),.func (.func fnb_F) fnb_C] (.bool r) := by
  unfold slices_ContainsFunc_Query_Query at h
  refine ACall.bodyN Tryz.func128 J Tryz.ntmps128 Tryz.results128 J J ?_
  refine tSR<|rA J J<|rN<|tSR<|rM J J<|rM J J<|bndE h fun v1 e1 h=>r_callpB J (slices_IndexFunc_Query_Query_c fnb_h e1) (.cons (.co (.refl _)) (.cons (.co (.refl _)) .nil)) J J<|ARun.qv (q_geq J J) J<|rA J J<|rN<|ATodo.ret<|?_
  obtain rfl := Option.some.inj h
  exact ImpX.here ⟨_,.cons (.tmp _ _ J) .nil,J⟩

theorem internal_stringslite_CutPrefix_c [GI : GTab] {p0x0 : Str} {p1x0 : Str} {r : Str × Bool} (h : internal_stringslite_CutPrefix p0x0 p1x0 = some r) : Pu Tryz.prog 246 [.str p0x0,.str p1x0] (.tup [.str r.1,.bool r.2]) := by
  unfold internal_stringslite_CutPrefix at h
  refine ACall.bodyN Tryz.func246 J Tryz.ntmps246 Tryz.results246 J J ?_
  refine tSR<|rA J J<|rA J J<|rN<|tS<|tSR<|rM J J<|rM J J<|bndE h fun v1 e1 h=>r_callp J (internal_stringslite_HasPrefix_c e1) (CoL.refl _) J<|ARun.qv (q_not J) J<|rN<|ATodo.cond J (fun hc=>?_) (fun hc=>?_)
  · refine have h := iteT hc h; tSR<|rM J J<|rA J J<|rA J J<|rN<|ATodo.ret<|?_
    obtain rfl := Option.some.inj h
    exact ImpX.here ⟨_,.cons (.tmp _ _ J) (.cons (.tmp _ _ J) .nil),J⟩
  · refine have h := iteFb hc h; tK<|tSR<|rM J J<|rM J J<|ARun.qv (q_len_str J) J<|bndE h fun l2 e2 h=>ARun.qv (t_slice_str J (.some _ _ _ J) .none J J e2) J<|rA J J<|rA J J<|rN<|ATodo.ret<|?_
    obtain rfl := Option.some.inj h
    exact ImpX.here ⟨_,.cons (.tmp _ _ J) (.cons (.tmp _ _ J) .nil),J⟩

theorem strings_CutPrefix_c [GI : GTab] {p0x0 : Str} {p1x0 : Str} {r : Str × Bool} (h : strings_CutPrefix p0x0 p1x0 = some r) : Pu Tryz.prog 216 [.str p0x0,.str p1x0] (.tup [.str r.1,.bool r.2]) := by
  unfold strings_CutPrefix at h
  refine ACall.bodyN Tryz.func216 J Tryz.ntmps216 Tryz.results216 J J ?_
  refine tSR<|rA J J<|rA J J<|rN<|tSR<|rM J J<|rM J J<|bndE h fun v1 e1 h=>r_callp J (internal_stringslite_CutPrefix_c e1) (CoL.refl _) J<|rX J J J<|rX J J J<|rA J J<|rA J J<|rN<|ATodo.ret<|?_
  obtain rfl := Option.some.inj h
  exact ImpX.here ⟨_,.cons (.tmp _ _ J) (.cons (.tmp _ _ J) .nil),J⟩

theorem Q_PropName_1x_c {p0x0 : Str} {r : Bool} (h : Q_PropName_1x p0x0 = some r) : Pu Tryz.prog 183 [.str p0x0] (.bool r) := by
  unfold Q_PropName_1x at h
  refine ACall.bodyN Tryz.func183 J Tryz.ntmps183 Tryz.results183 J J ?_
  refine tSR<|rA J J<|rN<|tSR<|rM J J<|bndE h fun v1 e1 h=>r_callp J (Q_Key_c e1) (CoL.refl _) J<|ARun.qv (q_not J) J<|rA J J<|rN<|ATodo.ret<|?_
  obtain rfl := Option.some.inj h
  exact ImpX.here ⟨_,.cons (.tmp _ _ J) .nil,J⟩

theorem Q_PropName_c {p0x0 : Str} {r : Bool} (h : Q_PropName p0x0 = some r) : Pu Tryz.prog 125 [.str p0x0] (.bool r) := by
  unfold Q_PropName at h
  refine ACall.bodyN Tryz.func125 J Tryz.ntmps125 Tryz.results125 J J ?_
  refine tSR<|rA J J<|rN<|tSR<|rM J J<|bndE h fun v1 e1 h=>t_call1 J (strings_Split_c e1) (CoL.refl _) .nil (fun _=>J) J fun b2=>rA J J<|rN<|tS<|ATodo.cut (fun σ'=>∃ (c3 : Bool),Q_PropName_j1 c3 = some r ∧ σ' = ⟨19,[(2,.bool c3)],[]⟩) ?_ ?_
  · refine tR<|rM J J<|ARun.qv (q_len_str J) J<|ARun.qv (q_leq J J) J<|rM J J<|ARun.guard_dt J J J (fun hc=>?_) (fun hc=>?_)
    · refine have h := iteT hc h; rM J J<|rY J J J<|ARun.qv (t_len_sl J) J<|rY J J J<|ARun.qv (q_leq J J) J<|rT J J J<|rM J J<|ARun.guard_dt J J J (fun hc=>?_) (fun hc=>?_)
      · exact have h := iteT hc h; rM J J<|rY J J J<|bndE h fun v4 e2 h=>r_callpB J (slices_ContainsFunc_string_string_c (fun e=>Q_PropName_1x_c e) e2) (.cons (CoB.arrT .p0) (.cons (.funcL _ _ _ .nil) .nil)) J J<|rY J J J<|ARun.qv (q_not J) J<|rT J J J<|rA J J<|rN<|ATodo.stop<|ImpX.lq [] ⟨!v4,h,J⟩ J J
      · exact have h := iteF hc h; rG J J J J<|rG J J J J<|rE J J J<|rA J J<|rN<|ATodo.stop<|ImpX.lq [] ⟨false,h,J⟩ J J
    · exact have h := iteF hc h; rG J J J J<|rG J J J J<|rE J J J<|rM J J<|rG J J J J<|rG J J J J<|rG J J J J<|rE J J J<|rA J J<|rN<|ATodo.stop<|ImpX.lq [] ⟨false,h,J⟩ J J
  · rintro σ' ⟨c3, h, rfl⟩
    unfold Q_PropName_j1 at h
    refine ATodo.ret<|?_
    obtain rfl := Option.some.inj h
    exact ImpX.here ⟨_,.cons (.tmp _ _ J) .nil,J⟩

theorem Q_FieldRight_c {p0x0 : Str} {p1x0 : Bool} {r : Bool} (h : Q_FieldRight p0x0 p1x0 = some r) : Pu Tryz.prog 217 [.str p0x0,.bool p1x0] (.bool r) := by
  unfold Q_FieldRight at h
  refine ACall.bodyN Tryz.func217 J Tryz.ntmps217 Tryz.results217 J J ?_
  refine tSR<|rA J J<|rN<|tS<|tSR<|rM J J<|bndE h fun v1 e1 h=>r_callp J (strings_CutPrefix_c e1) (CoL.refl _) J<|rM J J<|rX J J J<|rX J J J<|rA J J<|rA J J<|rN<|tS<|ATodo.cut (fun σ'=>∃ (c2 : Bool),Q_FieldRight_j1 p0x0 p1x0 c2 = some r ∧ σ' = ⟨36,[(0,.str p0x0),(1,.bool p1x0),(18,.bool c2)],[]⟩) ?_ ?_
  · refine tR<|rM J J<|rM J J<|ARun.guard J J J (fun hc=>?_) (fun hc=>?_)
    · exact have h := iteT hc h; rM J J<|rY J J J<|bndE h fun v3 e2 h=>r_callp J (Q_Key_c e2) (CoL.refl _) J<|rT J J J<|rN<|ATodo.stop<|ImpX.lq [] ⟨v3,h,J⟩ J J
    · exact have h := iteFb hc h; rG J J J J<|rE J J J<|rN<|ATodo.stop<|ImpX.lq [] ⟨false,h,J⟩ J J
  · rintro σ' ⟨c2, h, rfl⟩
    unfold Q_FieldRight_j1 at h
    refine ATodo.cond J (fun hc=>?_) (fun hc=>?_)
    · refine have h := iteT hc h; tSR<|rA J J<|rN<|ATodo.ret<|?_
      obtain rfl := Option.some.inj h
      exact ImpX.here ⟨_,.cons (.tmp _ _ J) .nil,J⟩
    · refine have h := iteFb hc h; tK<|tS<|tSR<|rM J J<|bndE h fun v4 e3 h=>r_callp J (strings_CutPrefix_c e3) (CoL.refl _) J<|rM J J<|rX J J J<|rX J J J<|rA J J<|rA J J<|rN<|tS<|ATodo.cut (fun σ'=>∃ (c5 : Bool),Q_FieldRight_j2 p0x0 p1x0 c5 = some r ∧ σ' = ⟨36,[(0,.str p0x0),(1,.bool p1x0),(28,.bool c5)],[]⟩) ?_ ?_
      · refine tR<|rM J J<|rM J J<|ARun.guard J J J (fun hc=>?_) (fun hc=>?_)
        · exact have h := iteT hc h; rM J J<|rY J J J<|bndE h fun v6 e4 h=>r_callp J (Q_PropName_c e4) (CoL.refl _) J<|rT J J J<|rN<|ATodo.stop<|ImpX.lq [] ⟨v6,h,J⟩ J J
        · exact have h := iteFb hc h; rG J J J J<|rE J J J<|rN<|ATodo.stop<|ImpX.lq [] ⟨false,h,J⟩ J J
      · rintro σ' ⟨c5, h, rfl⟩
        unfold Q_FieldRight_j2 at h
        refine ATodo.cond J (fun hc=>?_) (fun hc=>?_)
        · refine have h := iteT hc h; tSR<|rA J J<|rN<|ATodo.ret<|?_
          obtain rfl := Option.some.inj h
          exact ImpX.here ⟨_,.cons (.tmp _ _ J) .nil,J⟩
        · refine have h := iteFb hc h; tK<|tS<|ATodo.cut (fun σ'=>∃ (c7 : Bool),Q_FieldRight_j3 c7 = some r ∧ σ' = ⟨36,[(4,.bool c7)],[]⟩) ?_ ?_
          · refine tR<|rM J J<|ARun.qv (q_not J) J<|rM J J<|ARun.guard J J J (fun hc=>?_) (fun hc=>?_)
            · exact have h := iteT hc h; n_buildSliceL (xs := ([([107,101,121] : Str),([109,111,100,101,108] : Str),([116,101,110,97,110,116] : Str),([102,105,114,109,119,97,114,101] : Str)]).map AV.str) J J J J J J<|rY J J J<|rM J J<|rY J J J<|bndE h fun v8 e5 h=>r_callp J (slices_Contains_string_string_c e5) (CoL.refl _) J<|rT J J J<|rA J J<|rN<|ATodo.stop<|ImpX.lq [] ⟨v8,h,J⟩ J J
            · exact have h := iteFb hc h; rG J J J J<|rG J J J J<|rE J J J<|rA J J<|rN<|ATodo.stop<|ImpX.lq [] ⟨false,h,J⟩ J J
          · rintro σ' ⟨c7, h, rfl⟩
            unfold Q_FieldRight_j3 at h
            refine ATodo.ret<|?_
            obtain rfl := Option.some.inj h
            exact ImpX.here ⟨_,.cons (.tmp _ _ J) .nil,J⟩

theorem Q_versionRight_c [GI : GTab] {p0x0 : Version} {r : Bool} (h : Q_versionRight p0x0 = r) : Pu Tryz.prog 123 [.agg [I p0x0.Major,I p0x0.Minor,I p0x0.Patch]] (.bool r) := by
  unfold Q_versionRight at h
  refine ACall.bodyN Tryz.func123 J Tryz.ntmps123 Tryz.results123 J J ?_
  refine tSR<|n_box J J J J fun b1=>rA J J<|rN<|tS<|ATodo.cut (fun σ'=>∃ (c2 : Bool),Q_versionRight_j1 c2 = r ∧ σ' = ⟨16,[(2,.bool c2)],[]⟩) ?_ ?_
  · refine tR<|rF J J J<|rL J J .p0 J J<|r_callp J (Q_in_c J) (CoL.refl _) J<|rM J J<|ARun.guard J J J (fun hc=>?_) (fun hc=>?_)
    · rw [andTb hc] at h
      refine rF J J J<|rY J J J<|rL J J .p0 J J<|rY J J J<|r_callp J (Q_in_c J) (CoL.refl _) J<|rT J J J<|rM J J<|ARun.guard J J J (fun hc=>?_) (fun hc=>?_)
      · rw [andTb hc] at h
        exact rF J J J<|rY J J J<|rL J J .p0 J J<|rY J J J<|r_callp J (Q_in_c J) (CoL.refl _) J<|rT J J J<|rA J J<|rN<|ATodo.stop<|ImpX.lq [] ⟨(Q_in p0x0.Patch (0 : Int) (9999 : Int)),h,J⟩ J J
      · rw [andFb hc] at h
        exact rG J J J J<|rG J J J J<|rE J J J<|rA J J<|rN<|ATodo.stop<|ImpX.lq [] ⟨false,h,J⟩ J J
    · rw [andFb hc] at h
      exact rG J J J J<|rG J J J J<|rE J J J<|rM J J<|rG J J J J<|rG J J J J<|rG J J J J<|rE J J J<|rA J J<|rN<|ATodo.stop<|ImpX.lq [] ⟨false,h,J⟩ J J
  · rintro σ' ⟨c2, h, rfl⟩
    unfold Q_versionRight_j1 at h
    refine ATodo.ret<|?_
    obtain rfl := h
    exact ImpX.here ⟨_,.cons (.tmp _ _ J) .nil,J⟩

theorem Q_RightValue_c {p0x0 : ValueS} {r : Bool} (h : Q_RightValue p0x0 = some r) : Pu Tryz.prog 126 [.agg [I p0x0.Kind,.bool p0x0.Flag,I p0x0.Number,.str p0x0.Words]] (.bool r) := by
  unfold Q_RightValue at h
  refine ACall.bodyN Tryz.func126 J Tryz.ntmps126 Tryz.results126 J J ?_
  refine tSR<|n_box J J J J fun b1=>rA J J<|rN<|tSR<|rF J J J<|rL J J .p0 J J<|rF J J J<|rL J J .p0 J J<|ARun.qv (q_neq J J) J<|rF J J J<|rL J J .p0 J J<|ARun.qv (q_sne J J) J<|n_buildSliceL (xs := ([p0x0.Flag,decide (p0x0.Number ≠ (0 : Int)),decide (p0x0.Words ≠ ([] : Str))]).map AV.bool) J J J J J J<|rA J J<|rN<|tS<|tSR<|rM J J<|ARun.qv (t_len J) J<|rM J J<|rN<|ATodo.block<|ATodo.loopI (fun x : Int=>Q_RightValue_b1 p0x0 x) (fun x σ'=>σ' = ⟨50,[(1,.ptr b1 0),(15,.list 1 ([p0x0.Flag,decide (p0x0.Number ≠ (0 : Int)),decide (p0x0.Words ≠ ([] : Str))].map AV.bool)),(16,I ([p0x0.Flag,decide (p0x0.Number ≠ (0 : Int)),decide (p0x0.Words ≠ ([] : Str))].length : Int)),(17,I x)],[(b1,.cells [I p0x0.Kind,.bool p0x0.Flag,I p0x0.Number,.str p0x0.Words])]⟩) h ?_ ?_
  · exact ImpX.lq [0] J J J
  · intro n3 z1 σ' J1 hmk h hJ1 hA1
    obtain rfl := hmk
    replace h : Q_RightValue_b1 p0x0 n3 = some z1 := h
    unfold Q_RightValue_b1 at h
    refine tSR<|ARun.qv (q_lss J J) J<|rN<|tS<|ATodo.cond_d J (fun hc=>?_) (fun hc=>?_)
    · refine have h := iteT hc h; tK<|tS<|ATodo.block<|tSR<|rM J J<|bndE h fun v4 e1 h=>ARun.qv (t_index J J J e1 J J) J<|ARun.qv (q_load_rptr J J J) J<|rA J J<|rA J J<|rN<|tS<|ATodo.cut (fun σ'=>∃ (c5 : Bool),Q_RightValue_j1 n3 c5 = some z1 ∧ σ' = ⟨50,[(1,.ptr b1 0),(15,.list 1 ([p0x0.Flag,decide (p0x0.Number ≠ (0 : Int)),decide (p0x0.Words ≠ ([] : Str))].map AV.bool)),(16,I ([p0x0.Flag,decide (p0x0.Number ≠ (0 : Int)),decide (p0x0.Words ≠ ([] : Str))].length : Int)),(17,I n3),(29,.bool c5)],[(b1,.cells [I p0x0.Kind,.bool p0x0.Flag,I p0x0.Number,.str p0x0.Words])]⟩) ?_ ?_
      · refine tR<|rM J J<|rM J J<|ARun.guard J J J (fun hc=>?_) (fun hc=>?_)
        · rw [andTb hc] at h
          exact rF J J J<|rY J J J<|rL J J .p0 J J<|rY J J J<|rM J J<|rY J J J<|ARun.qv (q_addw J J) J<|rY J J J<|ARun.qv (q_neq J J) J<|rT J J J<|rN<|ATodo.stop<|ImpX.lq [0] ⟨decide (p0x0.Kind ≠ (w64 (n3 + (1 : Int)))),h,J⟩ J J
        · rw [andFb hc] at h
          exact rG J J J J<|rG J J J J<|rG J J J J<|rG J J J J<|rE J J J<|rN<|ATodo.stop<|ImpX.lq [0] ⟨false,h,J⟩ J J
      · rintro σ' ⟨c5, h, rfl⟩
        unfold Q_RightValue_j1 at h
        refine ATodo.cond J (fun hc=>?_) (fun hc=>?_)
        · refine have h := iteT hc h; tSR<|rA J J<|rN<|ATodo.ret<|have h := outL h hA1; ?_
          obtain rfl := Option.some.inj h
          exact ImpX.here ⟨_,.cons (.tmp _ _ J) .nil,J⟩
        · refine have h := iteFb hc h; tK<|ATodo.blk<|tR<|ARun.qv (q_addw J J) J<|rM J J<|rN<|ATodo.stop<|?_
          obtain rfl := Option.some.inj h
          exact hJ1 _ _ J<|ImpX.lq [0] J J J
    · refine have h := iteF hc h; ATodo.exit J<|have h := outL h hA1; ?_
      unfold Q_RightValue_k3 at h
      refine tS<|ATodo.cut (fun σ'=>∃ (c6 : Bool),Q_RightValue_j2 c6 = some r ∧ σ' = ⟨50,[(2,.bool c6)],[]⟩) ?_ ?_
      · refine tR<|rF J J J<|rL J J .p0 J J<|r_callp J (Q_in_c J) (CoL.refl _) J<|rM J J<|ARun.guard J J J (fun hc=>?_) (fun hc=>?_)
        · refine have h := iteT hc h; rF J J J<|rY J J J<|rL J J .p0 J J<|rY J J J<|r_callp J (Q_in_c J) (CoL.refl _) J<|rT J J J<|rM J J<|ARun.guard J J J (fun hc=>?_) (fun hc=>?_)
          · refine have h := iteT hc h; rF J J J<|rY J J J<|rL J J .p0 J J<|rY J J J<|bndE h fun v7 e2 h=>r_callp J (utf8_ValidString_c e2) (CoL.refl _) J<|rT J J J<|rM J J<|ARun.guard J J J (fun hc=>?_) (fun hc=>?_)
            · rw [andTb hc] at h
              exact rF J J J<|rY J J J<|rL J J .p0 J J<|rY J J J<|ARun.qv (q_len_str J) J<|rY J J J<|ARun.qv (q_leq J J) J<|rT J J J<|rA J J<|rN<|ATodo.stop<|ImpX.lq [] ⟨decide ((p0x0.Words.length : Int) ≤ (100 : Int)),h,J⟩ J J
            · rw [andFb hc] at h
              exact rG J J J J<|rG J J J J<|rG J J J J<|rE J J J<|rA J J<|rN<|ATodo.stop<|ImpX.lq [] ⟨false,h,J⟩ J J
          · exact have h := iteFb hc h; rG J J J J<|rG J J J J<|rE J J J<|rM J J<|rG J J J J<|rG J J J J<|rG J J J J<|rG J J J J<|rE J J J<|rA J J<|rN<|ATodo.stop<|ImpX.lq [] ⟨false,h,J⟩ J J
        · exact have h := iteFb hc h; rG J J J J<|rG J J J J<|rE J J J<|rM J J<|rG J J J J<|rG J J J J<|rG J J J J<|rE J J J<|rM J J<|rG J J J J<|rG J J J J<|rG J J J J<|rG J J J J<|rE J J J<|rA J J<|rN<|ATodo.stop<|ImpX.lq [] ⟨false,h,J⟩ J J
      · rintro σ' ⟨c6, h, rfl⟩
        unfold Q_RightValue_j2 at h
        refine ATodo.ret<|?_
        obtain rfl := Option.some.inj h
        exact ImpX.here ⟨_,.cons (.tmp _ _ J) .nil,J⟩

theorem Q_isFault_c {p0x0 : Query} {r : Int} (h : Q_isFault p0x0 = some r) : Pu Tryz.prog 180 [.agg [I p0x0.Kind,.str p0x0.Field,.str p0x0.Op,I p0x0.Value.Kind,.bool p0x0.Value.Flag,I p0x0.Value.Number,.str p0x0.Value.Words,I p0x0.Version.Major,I p0x0.Version.Minor,I p0x0.Version.Patch,.list 11 (p0x0.Kids.map Query.av)]] (I r) := by
  unfold Q_isFault at h
  refine ACall.bodyN Tryz.func180 J Tryz.ntmps180 Tryz.results180 J J ?_
  refine tSR<|n_box J J J J fun b1=>rA J J<|rN<|tSR<|rF J J J<|rL J J .p0 J J<|ARun.qv (q_eql J J) J<|rA J J<|rN<|tS<|tSR<|rF J J J<|rL J J .p0 J J<|rM J J<|bndE h fun v2 e1 h=>r_callp J (Q_FieldRight_c e1) (CoL.refl _) J<|ARun.qv (q_not J) J<|rN<|ATodo.cond J (fun hc=>?_) (fun hc=>?_)
  · refine have h := iteT hc h; tSR<|rA J J<|rN<|ATodo.ret<|?_
    obtain rfl := Option.some.inj h
    exact ImpX.here ⟨_,.cons (.tmp _ _ J) .nil,J⟩
  · refine have h := iteFb hc h; tK<|tS<|tSR<|rM J J<|rN<|ATodo.cond_d J (fun hc=>?_) (fun hc=>?_)
    · refine have h := iteT hc h; tSR<|rA J J<|rN<|ATodo.ret<|?_
      obtain rfl := Option.some.inj h
      exact ImpX.here ⟨_,.cons (.tmp _ _ J) .nil,J⟩
    · refine have h := iteF hc h; tK<|tS<|ATodo.cut (fun σ'=>∃ (c3 : Bool),Q_isFault_j1 p0x0 c3 = some r ∧ σ' = ⟨82,[(1,.ptr b1 0),(4,.bool c3)],[(b1,.cells [I p0x0.Kind,.str p0x0.Field,.str p0x0.Op,I p0x0.Value.Kind,.bool p0x0.Value.Flag,I p0x0.Value.Number,.str p0x0.Value.Words,I p0x0.Version.Major,I p0x0.Version.Minor,I p0x0.Version.Patch,.list 11 (p0x0.Kids.map Query.av)])]⟩) ?_ ?_
      · refine tR<|rF J J J<|rL J J .p0 J J<|ARun.qv (q_seq J J) J<|rM J J<|ARun.guard_df J J J (fun hc=>?_) (fun hc=>?_)
        · rw [orFd hc] at h
          exact rF J J J<|rY J J J<|rL J J .p0 J J<|rY J J J<|ARun.qv (q_seq J J) J<|rE J J J<|rA J J<|rN<|ATodo.stop<|ImpX.lq [0] ⟨decide (p0x0.Op = ([33,61] : Str)),h,J⟩ J J
        · rw [orTd hc] at h
          exact rG J J J J<|rG J J J J<|rT J J J<|rA J J<|rN<|ATodo.stop<|ImpX.lq [0] ⟨true,h,J⟩ J J
      · rintro σ' ⟨c3, h, rfl⟩
        unfold Q_isFault_j1 at h
        refine tS<|tSR<|rF J J J<|rL J J .p0 J J<|ARun.qv (q_seq J J) J<|rA J J<|rN<|ATodo.block<|tS<|ATodo.regionM (id := 8) (A := [0,0,2,7,15,31]) 6 mixed J (by kernel_rfl) (by kernel_rfl)<|AM.callp J (Q_Ops_c J) (CoL.refl _) J<|AM.qv (n_field_ptr J J) J<|AM.qv (q_load_ptr J J .p0 J) J<|bndE h fun v4 e2 h=>AM.callp J (slices_Contains_string_string_c e2) (CoL.refl _) J<|AM.qv (q_not J) J<|AM.qv (q_assign J) J<|AM.nil<|rN<|ATodo.cond J (fun hc=>?_) (fun hc=>?_)
        · refine have h := iteT hc h; tSR<|rA J J<|rN<|ATodo.ret<|?_
          obtain rfl := Option.some.inj h
          exact ImpX.here ⟨_,.cons (.tmp _ _ J) .nil,J⟩
        · refine have h := iteFb hc h; tS<|ATodo.cut (fun σ'=>∃ (c5 : Bool),Q_isFault_j2 p0x0 c3 c5 = some r ∧ σ' = ⟨82,[(1,.ptr b1 0),(4,.bool c3),(5,.bool (decide (p0x0.Field = ([102,105,114,109,119,97,114,101] : Str)))),(32,.bool c5)],[(b1,.cells [I p0x0.Kind,.str p0x0.Field,.str p0x0.Op,I p0x0.Value.Kind,.bool p0x0.Value.Flag,I p0x0.Value.Number,.str p0x0.Value.Words,I p0x0.Version.Major,I p0x0.Version.Minor,I p0x0.Version.Patch,.list 11 (p0x0.Kids.map Query.av)])]⟩) ?_ ?_
          · refine tR<|rM J J<|rM J J<|ARun.guard_dt J J J (fun hc=>?_) (fun hc=>?_)
            · rw [andTd hc] at h
              exact rF J J J<|rY J J J<|ARun.qv (n_load_ptr_part J J .p0 J J) J<|rY J J J<|ARun.qv (n_build J J J J J) J<|rY J J J<|ARun.qv (t_tne (g := ValueS.av) (X := p0x0.Value) (Y := (⟨(0 : Int),false,(0 : Int),[]⟩ : ValueS)) J J J J J) J<|rT J J J<|rA J J<|rN<|ATodo.stop<|ImpX.lq [0] ⟨decide (p0x0.Value ≠ (⟨(0 : Int),false,(0 : Int),[]⟩ : ValueS)),h,J⟩ J J
            · rw [andFd hc] at h
              exact rG J J J J<|rG J J J J<|rG J J J J<|rE J J J<|rA J J<|rN<|ATodo.stop<|ImpX.lq [0] ⟨false,h,J⟩ J J
          · rintro σ' ⟨c5, h, rfl⟩
            unfold Q_isFault_j2 at h
            refine ATodo.cond J (fun hc=>?_) (fun hc=>?_)
            · refine have h := iteT hc h; tSR<|rA J J<|rN<|ATodo.ret<|?_
              obtain rfl := Option.some.inj h
              exact ImpX.here ⟨_,.cons (.tmp _ _ J) .nil,J⟩
            · refine have h := iteFb hc h; tS<|ATodo.cut (fun σ'=>∃ (c6 : Bool),Q_isFault_j3 p0x0 c3 c6 = some r ∧ σ' = ⟨82,[(1,.ptr b1 0),(4,.bool c3),(5,.bool (decide (p0x0.Field = ([102,105,114,109,119,97,114,101] : Str)))),(40,.bool c6)],[(b1,.cells [I p0x0.Kind,.str p0x0.Field,.str p0x0.Op,I p0x0.Value.Kind,.bool p0x0.Value.Flag,I p0x0.Value.Number,.str p0x0.Value.Words,I p0x0.Version.Major,I p0x0.Version.Minor,I p0x0.Version.Patch,.list 11 (p0x0.Kids.map Query.av)])]⟩) ?_ ?_
              · refine tR<|rM J J<|rM J J<|ARun.guard_dt J J J (fun hc=>?_) (fun hc=>?_)
                · rw [andTd hc] at h
                  exact rF J J J<|rY J J J<|ARun.qv (n_load_ptr_part J J .p0 J J) J<|rY J J J<|r_callp J (Q_versionRight_c J) (CoL.refl _) J<|rY J J J<|ARun.qv (q_not J) J<|rT J J J<|rA J J<|rN<|ATodo.stop<|ImpX.lq [0] ⟨!(Q_versionRight p0x0.Version),h,J⟩ J J
                · rw [andFd hc] at h
                  exact rG J J J J<|rG J J J J<|rG J J J J<|rE J J J<|rA J J<|rN<|ATodo.stop<|ImpX.lq [0] ⟨false,h,J⟩ J J
              · rintro σ' ⟨c6, h, rfl⟩
                unfold Q_isFault_j3 at h
                refine ATodo.cond J (fun hc=>?_) (fun hc=>?_)
                · refine have h := iteT hc h; tSR<|rA J J<|rN<|ATodo.ret<|?_
                  obtain rfl := Option.some.inj h
                  exact ImpX.here ⟨_,.cons (.tmp _ _ J) .nil,J⟩
                · refine have h := iteFb hc h; tSR<|rM J J<|rA J J<|rN<|ATodo.cond_d J (fun hc=>?_) (fun hc=>?_)
                  · refine have h := iteT hc h; tSR<|rA J J<|rN<|ATodo.ret<|?_
                    obtain rfl := Option.some.inj h
                    exact ImpX.here ⟨_,.cons (.tmp _ _ J) .nil,J⟩
                  · refine have h := iteF hc h; tS<|tSR<|rF J J J<|ARun.qv (n_load_ptr_part J J .p0 J J) J<|ARun.qv (n_build J J J J J) J<|ARun.qv (t_tne (g := Version.av) (X := p0x0.Version) (Y := (⟨(0 : Int),(0 : Int),(0 : Int)⟩ : Version)) J J J J J) J<|rA J J<|rN<|ATodo.cut (fun σ'=>∃ (c7 : Bool),Q_isFault_j4 p0x0 c3 c7 = some r ∧ σ' = ⟨82,[(1,.ptr b1 0),(4,.bool c3),(50,.bool c7)],[(b1,.cells [I p0x0.Kind,.str p0x0.Field,.str p0x0.Op,I p0x0.Value.Kind,.bool p0x0.Value.Flag,I p0x0.Value.Number,.str p0x0.Value.Words,I p0x0.Version.Major,I p0x0.Version.Minor,I p0x0.Version.Patch,.list 11 (p0x0.Kids.map Query.av)])]⟩) ?_ ?_
                    · refine ATodo.cond_d J (fun hc=>?_) (fun hc=>?_)
                      · exact have h := iteT hc h; tK<|ATodo.stop<|ImpX.lq [0] ⟨decide (p0x0.Version ≠ (⟨(0 : Int),(0 : Int),(0 : Int)⟩ : Version)),h,J⟩ J J
                      · refine have h := iteF hc h; tSR<|rF J J J<|ARun.qv (n_load_ptr_part J J .p0 J J) J<|bndE h fun v8 e3 h=>r_callp J (Q_RightValue_c e3) (CoL.refl _) J<|ARun.qv (q_not J) J<|rA J J<|rN<|ATodo.cut (fun σ'=>∃ (c9 : Bool),Q_isFault_j5 p0x0 c3 c9 = some r ∧ σ' = ⟨82,[(1,.ptr b1 0),(4,.bool c3),(50,.bool c9)],[(b1,.cells [I p0x0.Kind,.str p0x0.Field,.str p0x0.Op,I p0x0.Value.Kind,.bool p0x0.Value.Flag,I p0x0.Value.Number,.str p0x0.Value.Words,I p0x0.Version.Major,I p0x0.Version.Minor,I p0x0.Version.Patch,.list 11 (p0x0.Kids.map Query.av)])]⟩) ?_ ?_
                        · refine ATodo.cond J (fun hc=>?_) (fun hc=>?_)
                          · exact have h := iteT hc h; tK<|ATodo.stop<|ImpX.lq [0] ⟨!v8,h,J⟩ J J
                          · exact have h := iteFb hc h; tR<|rF J J J<|rF J J J<|rL J J .p0 J J<|ARun.qv (q_eql J J) J<|rA J J<|rN<|ATodo.stop<|ImpX.lq [0] ⟨decide (p0x0.Value.Kind = (0 : Int)),h,J⟩ J J
                        · rintro σ' ⟨c9, h, rfl⟩
                          unfold Q_isFault_j5 at h
                          exact ATodo.stop<|ImpX.lq [0] ⟨c9,h,J⟩ J J
                    · rintro σ' ⟨c7, h, rfl⟩
                      unfold Q_isFault_j4 at h
                      refine ATodo.cond J (fun hc=>?_) (fun hc=>?_)
                      · refine have h := iteT hc h; tSR<|rA J J<|rN<|ATodo.ret<|?_
                        obtain rfl := Option.some.inj h
                        exact ImpX.here ⟨_,.cons (.tmp _ _ J) .nil,J⟩
                      · refine have h := iteFb hc h; tS<|tS<|ATodo.cut (fun σ'=>∃ (c10 : Bool),Q_isFault_j6 p0x0 c3 c10 = some r ∧ σ' = ⟨82,[(1,.ptr b1 0),(4,.bool c3),(63,.bool c10)],[(b1,.cells [I p0x0.Kind,.str p0x0.Field,.str p0x0.Op,I p0x0.Value.Kind,.bool p0x0.Value.Flag,I p0x0.Value.Number,.str p0x0.Value.Words,I p0x0.Version.Major,I p0x0.Version.Minor,I p0x0.Version.Patch,.list 11 (p0x0.Kids.map Query.av)])]⟩) ?_ ?_
                        · refine tR<|rF J J J<|rF J J J<|rL J J .p0 J J<|ARun.qv (q_neq J J) J<|rM J J<|ARun.guard_dt J J J (fun hc=>?_) (fun hc=>?_)
                          · exact have h := iteT hc h; rF J J J<|rY J J J<|rL J J .p0 J J<|rY J J J<|bndE h fun v11 e4 h=>r_callp J (strings_HasPrefix_c e4) (CoL.refl _) J<|rY J J J<|ARun.qv (q_not J) J<|rT J J J<|rA J J<|rN<|ATodo.stop<|ImpX.lq [0] ⟨!v11,h,J⟩ J J
                          · exact have h := iteF hc h; rG J J J J<|rG J J J J<|rG J J J J<|rE J J J<|rA J J<|rN<|ATodo.stop<|ImpX.lq [0] ⟨false,h,J⟩ J J
                        · rintro σ' ⟨c10, h, rfl⟩
                          unfold Q_isFault_j6 at h
                          refine ATodo.cut (fun σ'=>∃ (c12 : Bool),Q_isFault_j7 c12 = some r ∧ σ' = ⟨82,[(63,.bool c12)],[]⟩) ?_ ?_
                          · refine ATodo.cond J (fun hc=>?_) (fun hc=>?_)
                            · exact have h := iteT hc h; tK<|ATodo.stop<|ImpX.lq [] ⟨c10,h,J⟩ J J
                            · refine have h := iteFb hc h; ATodo.cut (fun σ'=>∃ (c13 : Bool),Q_isFault_j8 c13 = some r ∧ σ' = ⟨82,[(63,.bool c13)],[]⟩) ?_ ?_
                              · refine tR<|rF J J J<|rF J J J<|rL J J .p0 J J<|ARun.qv (q_neq J J) J<|rM J J<|ARun.guard_dt J J J (fun hc=>?_) (fun hc=>?_)
                                · rw [andTd hc] at h
                                  exact rM J J<|rY J J J<|ARun.qv (q_not J) J<|rT J J J<|rA J J<|rN<|ATodo.stop<|ImpX.lq [] ⟨!c3,h,J⟩ J J
                                · rw [andFd hc] at h
                                  exact rG J J J J<|rE J J J<|rA J J<|rN<|ATodo.stop<|ImpX.lq [] ⟨false,h,J⟩ J J
                              · rintro σ' ⟨c13, h, rfl⟩
                                unfold Q_isFault_j8 at h
                                exact ATodo.stop<|ImpX.lq [] ⟨c13,h,J⟩ J J
                          · rintro σ' ⟨c12, h, rfl⟩
                            unfold Q_isFault_j7 at h
                            refine ATodo.cond J (fun hc=>?_) (fun hc=>?_)
                            · refine have h := iteT hc h; tSR<|rA J J<|rN<|ATodo.ret<|?_
                              obtain rfl := Option.some.inj h
                              exact ImpX.here ⟨_,.cons (.tmp _ _ J) .nil,J⟩
                            · refine have h := iteFb hc h; tK<|ATodo.blk<|tSR<|rA J J<|rN<|ATodo.ret<|?_
                              obtain rfl := Option.some.inj h
                              exact ImpX.here ⟨_,.cons (.tmp _ _ J) .nil,J⟩

theorem Q_oneQuery_bd_c {self : Query → Option Int} (self_h : ∀ {p0x0 : Query} {r : Int},self p0x0 = some r → Pu Tryz.prog 122 [.agg [I p0x0.Kind,.str p0x0.Field,.str p0x0.Op,I p0x0.Value.Kind,.bool p0x0.Value.Flag,I p0x0.Value.Number,.str p0x0.Value.Words,I p0x0.Version.Major,I p0x0.Version.Minor,I p0x0.Version.Patch,.list 11 (p0x0.Kids.map Query.av)]] (I r)) {p0x0 : Query} {r : Int} (h : Q_oneQuery_bd self p0x0 = some r) : Pu Tryz.prog 122 [.agg [I p0x0.Kind,.str p0x0.Field,.str p0x0.Op,I p0x0.Value.Kind,.bool p0x0.Value.Flag,I p0x0.Value.Number,.str p0x0.Value.Words,I p0x0.Version.Major,I p0x0.Version.Minor,I p0x0.Version.Patch,.list 11 (p0x0.Kids.map Query.av)]] (I r) := by
  unfold Q_oneQuery_bd at h
  refine ACall.bodyN Tryz.func122 J Tryz.ntmps122 Tryz.results122 J J ?_
  refine tSR<|n_box J J J J fun b1=>rA J J<|rN<|tS<|tSR<|rF J J J<|rL J J .p0 J J<|r_callp J (Q_in_c J) (CoL.refl _) J<|ARun.qv (q_not J) J<|rN<|ATodo.cond J (fun hc=>?_) (fun hc=>?_)
  · refine have h := iteT hc h; tSR<|rA J J<|rN<|ATodo.ret<|?_
    obtain rfl := Option.some.inj h
    exact ImpX.here ⟨_,.cons (.tmp _ _ J) .nil,J⟩
  · refine have h := iteFb hc h; tK<|tSR<|rF J J J<|rL J J .p0 J J<|ARun.qv (t_len J) J<|rA J J<|rN<|tS<|ATodo.cut (fun σ'=>∃ (c2 : Bool),Q_oneQuery_j1 self p0x0 c2 = some r ∧ σ' = ⟨98,[(1,.ptr b1 0),(3,I (p0x0.Kids.length : Int)),(4,.bool c2)],[(b1,.cells [I p0x0.Kind,.str p0x0.Field,.str p0x0.Op,I p0x0.Value.Kind,.bool p0x0.Value.Flag,I p0x0.Value.Number,.str p0x0.Value.Words,I p0x0.Version.Major,I p0x0.Version.Minor,I p0x0.Version.Patch,.list 11 (p0x0.Kids.map Query.av)])]⟩) ?_ ?_
    · refine tR<|rF J J J<|rL J J .p0 J J<|ARun.qv (q_eql J J) J<|rM J J<|ARun.guard_df J J J (fun hc=>?_) (fun hc=>?_)
      · rw [orFd hc] at h
        exact rF J J J<|rY J J J<|rL J J .p0 J J<|rY J J J<|ARun.qv (q_eql J J) J<|rE J J J<|rA J J<|rN<|ATodo.stop<|ImpX.lq [0] ⟨decide (p0x0.Kind = (5 : Int)),h,J⟩ J J
      · rw [orTd hc] at h
        exact rG J J J J<|rG J J J J<|rT J J J<|rA J J<|rN<|ATodo.stop<|ImpX.lq [0] ⟨true,h,J⟩ J J
    · rintro σ' ⟨c2, h, rfl⟩
      unfold Q_oneQuery_j1 at h
      refine tS<|ATodo.block<|tS<|tS<|ATodo.cut (fun σ'=>∃ (c3 : Bool),Q_oneQuery_j2 self p0x0 c2 c3 = some r ∧ σ' = ⟨98,[(1,.ptr b1 0),(3,I (p0x0.Kids.length : Int)),(4,.bool c2),(23,.bool c3)],[(b1,.cells [I p0x0.Kind,.str p0x0.Field,.str p0x0.Op,I p0x0.Value.Kind,.bool p0x0.Value.Flag,I p0x0.Value.Number,.str p0x0.Value.Words,I p0x0.Version.Major,I p0x0.Version.Minor,I p0x0.Version.Patch,.list 11 (p0x0.Kids.map Query.av)])]⟩) ?_ ?_
      · refine tR<|rF J J J<|rL J J .p0 J J<|ARun.qv (q_leq J J) J<|rM J J<|ARun.guard_dt J J J (fun hc=>?_) (fun hc=>?_)
        · rw [andTd hc] at h
          exact rM J J<|rY J J J<|ARun.qv (q_gtr J J) J<|rT J J J<|rA J J<|rN<|ATodo.stop<|ImpX.lq [0] ⟨decide ((0 : Int) < (p0x0.Kids.length : Int)),h,J⟩ J J
        · rw [andFd hc] at h
          exact rG J J J J<|rE J J J<|rA J J<|rN<|ATodo.stop<|ImpX.lq [0] ⟨false,h,J⟩ J J
      · rintro σ' ⟨c3, h, rfl⟩
        unfold Q_oneQuery_j2 at h
        refine ATodo.cut (fun σ'=>∃ (c4 : Bool),Q_oneQuery_j3 self p0x0 c2 c4 = some r ∧ σ' = ⟨98,[(1,.ptr b1 0),(4,.bool c2),(23,.bool c4)],[(b1,.cells [I p0x0.Kind,.str p0x0.Field,.str p0x0.Op,I p0x0.Value.Kind,.bool p0x0.Value.Flag,I p0x0.Value.Number,.str p0x0.Value.Words,I p0x0.Version.Major,I p0x0.Version.Minor,I p0x0.Version.Patch,.list 11 (p0x0.Kids.map Query.av)])]⟩) ?_ ?_
        · refine ATodo.cond J (fun hc=>?_) (fun hc=>?_)
          · exact have h := iteT hc h; tK<|ATodo.stop<|ImpX.lq [0] ⟨c3,h,J⟩ J J
          · refine have h := iteFb hc h; tS<|ATodo.cut (fun σ'=>∃ (c5 : Bool),Q_oneQuery_j4 self p0x0 c2 c5 = some r ∧ σ' = ⟨98,[(1,.ptr b1 0),(3,I (p0x0.Kids.length : Int)),(4,.bool c2),(23,.bool c5)],[(b1,.cells [I p0x0.Kind,.str p0x0.Field,.str p0x0.Op,I p0x0.Value.Kind,.bool p0x0.Value.Flag,I p0x0.Value.Number,.str p0x0.Value.Words,I p0x0.Version.Major,I p0x0.Version.Minor,I p0x0.Version.Patch,.list 11 (p0x0.Kids.map Query.av)])]⟩) ?_ ?_
            · refine tR<|rF J J J<|rL J J .p0 J J<|ARun.qv (q_eql J J) J<|rM J J<|ARun.guard_dt J J J (fun hc=>?_) (fun hc=>?_)
              · rw [andTd hc] at h
                exact rM J J<|rY J J J<|ARun.qv (q_neq J J) J<|rT J J J<|rA J J<|rN<|ATodo.stop<|ImpX.lq [0] ⟨decide ((p0x0.Kids.length : Int) ≠ (1 : Int)),h,J⟩ J J
              · rw [andFd hc] at h
                exact rG J J J J<|rE J J J<|rA J J<|rN<|ATodo.stop<|ImpX.lq [0] ⟨false,h,J⟩ J J
            · rintro σ' ⟨c5, h, rfl⟩
              unfold Q_oneQuery_j4 at h
              refine ATodo.cut (fun σ'=>∃ (c6 : Bool),Q_oneQuery_j5 self p0x0 c2 c6 = some r ∧ σ' = ⟨98,[(1,.ptr b1 0),(4,.bool c2),(23,.bool c6)],[(b1,.cells [I p0x0.Kind,.str p0x0.Field,.str p0x0.Op,I p0x0.Value.Kind,.bool p0x0.Value.Flag,I p0x0.Value.Number,.str p0x0.Value.Words,I p0x0.Version.Major,I p0x0.Version.Minor,I p0x0.Version.Patch,.list 11 (p0x0.Kids.map Query.av)])]⟩) ?_ ?_
              · refine ATodo.cond J (fun hc=>?_) (fun hc=>?_)
                · exact have h := iteT hc h; tK<|ATodo.stop<|ImpX.lq [0] ⟨c5,h,J⟩ J J
                · refine have h := iteFb hc h; ATodo.cut (fun σ'=>∃ (c7 : Bool),Q_oneQuery_j6 self p0x0 c2 c7 = some r ∧ σ' = ⟨98,[(1,.ptr b1 0),(4,.bool c2),(23,.bool c7)],[(b1,.cells [I p0x0.Kind,.str p0x0.Field,.str p0x0.Op,I p0x0.Value.Kind,.bool p0x0.Value.Flag,I p0x0.Value.Number,.str p0x0.Value.Words,I p0x0.Version.Major,I p0x0.Version.Minor,I p0x0.Version.Patch,.list 11 (p0x0.Kids.map Query.av)])]⟩) ?_ ?_
                  · refine tR<|rM J J<|rM J J<|ARun.guard J J J (fun hc=>?_) (fun hc=>?_)
                    · rw [andTb hc] at h
                      exact rM J J<|rY J J J<|ARun.qv (q_lss J J) J<|rT J J J<|rA J J<|rN<|ATodo.stop<|ImpX.lq [0] ⟨decide ((p0x0.Kids.length : Int) < (2 : Int)),h,J⟩ J J
                    · rw [andFb hc] at h
                      exact rG J J J J<|rE J J J<|rA J J<|rN<|ATodo.stop<|ImpX.lq [0] ⟨false,h,J⟩ J J
                  · rintro σ' ⟨c7, h, rfl⟩
                    unfold Q_oneQuery_j6 at h
                    exact ATodo.stop<|ImpX.lq [0] ⟨c7,h,J⟩ J J
              · rintro σ' ⟨c6, h, rfl⟩
                unfold Q_oneQuery_j5 at h
                exact ATodo.stop<|ImpX.lq [0] ⟨c6,h,J⟩ J J
        · rintro σ' ⟨c4, h, rfl⟩
          unfold Q_oneQuery_j3 at h
          refine ATodo.cond J (fun hc=>?_) (fun hc=>?_)
          · refine have h := iteT hc h; tSR<|rA J J<|rN<|ATodo.ret<|?_
            obtain rfl := Option.some.inj h
            exact ImpX.here ⟨_,.cons (.tmp _ _ J) .nil,J⟩
          · refine have h := iteFb hc h; tS<|ATodo.cut (fun σ'=>∃ (c8 : Bool),Q_oneQuery_j7 self p0x0 c8 = some r ∧ σ' = ⟨98,[(1,.ptr b1 0),(43,.bool c8)],[(b1,.cells [I p0x0.Kind,.str p0x0.Field,.str p0x0.Op,I p0x0.Value.Kind,.bool p0x0.Value.Flag,I p0x0.Value.Number,.str p0x0.Value.Words,I p0x0.Version.Major,I p0x0.Version.Minor,I p0x0.Version.Patch,.list 11 (p0x0.Kids.map Query.av)])]⟩) ?_ ?_
            · refine tR<|rM J J<|rM J J<|ARun.guard J J J (fun hc=>?_) (fun hc=>?_)
              · exact have h := iteT hc h; rF J J J<|rY J J J<|rL J J .p0 J J<|rY J J J<|ARun.qv (q_makeFunc J) J<|rY J J J<|bndE h fun v9 e1 h=>r_callpB J (slices_ContainsFunc_Query_Query_c (fun e=>Q_oneQuery_1x_c (Option.some.inj e)) e1) (.cons (.co (.refl _)) (.cons (.funcL _ _ _ (.cons (.boxL _ _ _ .p0 (.cons (.co (.refl _)) (.cons (.co (.refl _)) (.cons (.co (.refl _)) (.cons (.co (.refl _)) (.cons (.co (.refl _)) (.cons (.co (.refl _)) (.cons (.co (.refl _)) (.cons (.co (.refl _)) (.cons (.co (.refl _)) (.cons (.co (.refl _)) (.cons (.co (.refl _)) .nil)))))))))))) .nil)) .nil)) J J<|rT J J J<|rA J J<|rN<|ATodo.stop<|ImpX.lq [0] ⟨v9,h,J⟩ J J
              · exact have h := iteFb hc h; rG J J J J<|rG J J J J<|rG J J J J<|rE J J J<|rA J J<|rN<|ATodo.stop<|ImpX.lq [0] ⟨false,h,J⟩ J J
            · rintro σ' ⟨c8, h, rfl⟩
              unfold Q_oneQuery_j7 at h
              refine ATodo.cond J (fun hc=>?_) (fun hc=>?_)
              · refine have h := iteT hc h; tSR<|rA J J<|rN<|ATodo.ret<|?_
                obtain rfl := Option.some.inj h
                exact ImpX.here ⟨_,.cons (.tmp _ _ J) .nil,J⟩
              · refine have h := iteFb hc h; tS<|tS<|ATodo.cut (fun σ'=>∃ (c10 : Bool),Q_oneQuery_j8 self p0x0 c10 = some r ∧ σ' = ⟨98,[(1,.ptr b1 0),(51,.bool c10)],[(b1,.cells [I p0x0.Kind,.str p0x0.Field,.str p0x0.Op,I p0x0.Value.Kind,.bool p0x0.Value.Flag,I p0x0.Value.Number,.str p0x0.Value.Words,I p0x0.Version.Major,I p0x0.Version.Minor,I p0x0.Version.Patch,.list 11 (p0x0.Kids.map Query.av)])]⟩) ?_ ?_
                · refine tR<|rF J J J<|rL J J .p0 J J<|ARun.qv (q_neq J J) J<|rM J J<|ARun.guard_dt J J J (fun hc=>?_) (fun hc=>?_)
                  · rw [andTd hc] at h
                    refine rF J J J<|rY J J J<|rL J J .p0 J J<|rY J J J<|ARun.qv (q_sne J J) J<|rY J J J<|rM J J<|ARun.guard_df J J J (fun hc=>?_) (fun hc=>?_)
                    · rw [orFd hc] at h
                      refine rF J J J<|rY J J J<|ARun.qv (n_load_ptr_part J J .p0 J J) J<|rY J J J<|ARun.qv (n_build J J J J J) J<|rY J J J<|ARun.qv (t_tne (g := ValueS.av) (X := p0x0.Value) (Y := (⟨(0 : Int),false,(0 : Int),[]⟩ : ValueS)) J J J J J) J<|rY J J J<|rE J J J<|rY J J J<|rM J J<|ARun.guard_df J J J (fun hc=>?_) (fun hc=>?_)
                      · rw [orFd hc] at h
                        exact rF J J J<|rY J J J<|ARun.qv (n_load_ptr_part J J .p0 J J) J<|rY J J J<|ARun.qv (n_build J J J J J) J<|rY J J J<|ARun.qv (t_tne (g := Version.av) (X := p0x0.Version) (Y := (⟨(0 : Int),(0 : Int),(0 : Int)⟩ : Version)) J J J J J) J<|rY J J J<|rE J J J<|rT J J J<|rA J J<|rN<|ATodo.stop<|ImpX.lq [0] ⟨decide (p0x0.Version ≠ (⟨(0 : Int),(0 : Int),(0 : Int)⟩ : Version)),h,J⟩ J J
                      · rw [orTd hc] at h
                        exact rG J J J J<|rG J J J J<|rG J J J J<|rY J J J<|rT J J J<|rT J J J<|rA J J<|rN<|ATodo.stop<|ImpX.lq [0] ⟨true,h,J⟩ J J
                    · rw [orTd hc] at h
                      exact rG J J J J<|rG J J J J<|rG J J J J<|rY J J J<|rT J J J<|rY J J J<|rM J J<|rG J J J J<|rG J J J J<|rG J J J J<|rG J J J J<|rY J J J<|rT J J J<|rT J J J<|rA J J<|rN<|ATodo.stop<|ImpX.lq [0] ⟨true,h,J⟩ J J
                  · rw [andFd hc] at h
                    exact rG J J J J<|rG J J J J<|rG J J J J<|ARun.guard_und J J J<|ARun.guard_und J J J<|ARun.guard_und J J J<|ARun.guard_und J J J<|rG J J J J<|rG J J J J<|ARun.guard_und J J J<|ARun.guard_und J J J<|ARun.guard_und J J J<|ARun.guard_und J J J<|rG J J J J<|rE J J J<|rA J J<|rN<|ATodo.stop<|ImpX.lq [0] ⟨false,h,J⟩ J J
                · rintro σ' ⟨c10, h, rfl⟩
                  unfold Q_oneQuery_j8 at h
                  refine ATodo.cut (fun σ'=>∃ (c11 : Bool),Q_oneQuery_j9 self p0x0 c11 = some r ∧ σ' = ⟨98,[(1,.ptr b1 0),(51,.bool c11)],[(b1,.cells [I p0x0.Kind,.str p0x0.Field,.str p0x0.Op,I p0x0.Value.Kind,.bool p0x0.Value.Flag,I p0x0.Value.Number,.str p0x0.Value.Words,I p0x0.Version.Major,I p0x0.Version.Minor,I p0x0.Version.Patch,.list 11 (p0x0.Kids.map Query.av)])]⟩) ?_ ?_
                  · refine ATodo.cond J (fun hc=>?_) (fun hc=>?_)
                    · exact have h := iteT hc h; tK<|ATodo.stop<|ImpX.lq [0] ⟨c10,h,J⟩ J J
                    · refine have h := iteFb hc h; ATodo.cut (fun σ'=>∃ (c12 : Bool),Q_oneQuery_j10 self p0x0 c12 = some r ∧ σ' = ⟨98,[(1,.ptr b1 0),(51,.bool c12)],[(b1,.cells [I p0x0.Kind,.str p0x0.Field,.str p0x0.Op,I p0x0.Value.Kind,.bool p0x0.Value.Flag,I p0x0.Value.Number,.str p0x0.Value.Words,I p0x0.Version.Major,I p0x0.Version.Minor,I p0x0.Version.Patch,.list 11 (p0x0.Kids.map Query.av)])]⟩) ?_ ?_
                      · refine tR<|rF J J J<|rL J J .p0 J J<|ARun.qv (q_gtr J J) J<|rM J J<|ARun.guard_dt J J J (fun hc=>?_) (fun hc=>?_)
                        · rw [andTd hc] at h
                          exact rF J J J<|rY J J J<|rL J J .p0 J J<|rY J J J<|ARun.qv (q_sne J J) J<|rT J J J<|rA J J<|rN<|ATodo.stop<|ImpX.lq [0] ⟨decide (p0x0.Field ≠ ([] : Str)),h,J⟩ J J
                        · rw [andFd hc] at h
                          exact rG J J J J<|rG J J J J<|rE J J J<|rA J J<|rN<|ATodo.stop<|ImpX.lq [0] ⟨false,h,J⟩ J J
                      · rintro σ' ⟨c12, h, rfl⟩
                        unfold Q_oneQuery_j10 at h
                        exact ATodo.stop<|ImpX.lq [0] ⟨c12,h,J⟩ J J
                  · rintro σ' ⟨c11, h, rfl⟩
                    unfold Q_oneQuery_j9 at h
                    refine ATodo.cond J (fun hc=>?_) (fun hc=>?_)
                    · refine have h := iteT hc h; tSR<|rA J J<|rN<|ATodo.ret<|?_
                      obtain rfl := Option.some.inj h
                      exact ImpX.here ⟨_,.cons (.tmp _ _ J) .nil,J⟩
                    · refine have h := iteFb hc h; tK<|ATodo.blk<|tS<|tSR<|rF J J J<|rL J J .p0 J J<|ARun.qv (q_leq J J) J<|rN<|ATodo.cond_d J (fun hc=>?_) (fun hc=>?_)
                      · refine have h := iteT hc h; tSR<|ARun.qv (q_load_ptr_all J J .p0 J) J<|bndE h fun v13 e2 h=>r_callp J (Q_isFault_c e2) (CoL.refl _) J<|rA J J<|rN<|ATodo.ret<|?_
                        obtain rfl := Option.some.inj h
                        exact ImpX.here ⟨_,.cons (.tmp _ _ J) .nil,J⟩
                      · refine have h := iteF hc h; tK<|tS<|tSR<|rF J J J<|rL J J .p0 J J<|ARun.qv (t_len J) J<|rM J J<|rN<|ATodo.block<|ATodo.loopI (fun x : Int=>Q_oneQuery_b1 self p0x0 x) (fun x σ'=>σ' = ⟨98,[(86,.list 11 (p0x0.Kids.map Query.av)),(87,I (p0x0.Kids.length : Int)),(88,I x)],[]⟩) h ?_ ?_
                        · exact ImpX.lq [] J J J
                        · intro n15 z1 σ' J1 hmk h hJ1 hA1
                          obtain rfl := hmk
                          replace h : Q_oneQuery_b1 self p0x0 n15 = some z1 := h
                          unfold Q_oneQuery_b1 at h
                          refine tSR<|ARun.qv (q_lss J J) J<|rN<|tS<|ATodo.cond_d J (fun hc=>?_) (fun hc=>?_)
                          · refine have h := iteT hc h; tK<|tS<|ATodo.block<|tSR<|bndE h fun v16 e3 h=>ARun.qv (t_index J J J e3 J (by rw [Query.av_eq]; rfl)) J<|ARun.qv (q_load_rptr_agg J J J) J<|n_alloc J J J J fun b17=>n_store_ptr J J J J .p0 J J<|rN<|tSR<|ARun.qv (q_load_ptr_all J J .p0 J) J<|bndE h fun v18 e4 h=>r_callp J (self_h e4) (CoL.refl _) J<|rA J J<|rN<|tSR<|rM J J<|ARun.qv (q_neq J J) J<|rN<|ATodo.cond_d J (fun hc=>?_) (fun hc=>?_)
                            · refine have h := iteT hc h; tSR<|rM J J<|rA J J<|rN<|ATodo.ret<|have h := outL h hA1; ?_
                              obtain rfl := Option.some.inj h
                              exact ImpX.here ⟨_,.cons (.tmp _ _ J) .nil,J⟩
                            · refine have h := iteF hc h; tK<|ATodo.blk<|tR<|ARun.qv (q_addw J J) J<|rM J J<|rN<|ATodo.stop<|?_
                              obtain rfl := Option.some.inj h
                              exact hJ1 _ _ J<|ImpX.lq [] J J J
                          · refine have h := iteF hc h; ATodo.exit J<|have h := outL h hA1; tSR<|rA J J<|rN<|ATodo.ret<|?_
                            obtain rfl := Option.some.inj h
                            exact ImpX.here ⟨_,.cons (.tmp _ _ J) .nil,J⟩
theorem Q_oneQuery_r_c : ∀ (k : Nat) {p0x0 : Query} {r : Int},Q_oneQuery_r k p0x0 = some r → Pu Tryz.prog 122 [.agg [I p0x0.Kind,.str p0x0.Field,.str p0x0.Op,I p0x0.Value.Kind,.bool p0x0.Value.Flag,I p0x0.Value.Number,.str p0x0.Value.Words,I p0x0.Version.Major,I p0x0.Version.Minor,I p0x0.Version.Patch,.list 11 (p0x0.Kids.map Query.av)]] (I r) := by
  intro k
  induction k with
  | zero=>intro p0x0 r h; cases h
  | succ k ih=>intro p0x0 r h; exact Q_oneQuery_bd_c ih h
theorem Q_oneQuery_c {p0x0 : Query} {r : Int} (h : Q_oneQuery p0x0 = some r) : Pu Tryz.prog 122 [.agg [I p0x0.Kind,.str p0x0.Field,.str p0x0.Op,I p0x0.Value.Kind,.bool p0x0.Value.Flag,I p0x0.Value.Number,.str p0x0.Value.Words,I p0x0.Version.Major,I p0x0.Version.Minor,I p0x0.Version.Patch,.list 11 (p0x0.Kids.map Query.av)]] (I r) := Q_oneQuery_r_c depth h

theorem Q_QueryFault_c {p0x0 : Query} {r : Int} (h : Q_QueryFault p0x0 = some r) : Pu Tryz.prog 48 [.agg [I p0x0.Kind,.str p0x0.Field,.str p0x0.Op,I p0x0.Value.Kind,.bool p0x0.Value.Flag,I p0x0.Value.Number,.str p0x0.Value.Words,I p0x0.Version.Major,I p0x0.Version.Minor,I p0x0.Version.Patch,.list 11 (p0x0.Kids.map Query.av)]] (I r) := by
  unfold Q_QueryFault at h
  refine ACall.bodyN Tryz.func48 J Tryz.ntmps48 Tryz.results48 J J ?_
  refine tSR<|n_box J J J J fun b1=>rA J J<|rN<|tS<|tS<|ATodo.cut (fun σ'=>∃ (c2 : Bool),Q_QueryFault_j1 p0x0 c2 = some r ∧ σ' = ⟨14,[(1,.ptr b1 0),(11,.bool c2)],[(b1,.cells [I p0x0.Kind,.str p0x0.Field,.str p0x0.Op,I p0x0.Value.Kind,.bool p0x0.Value.Flag,I p0x0.Value.Number,.str p0x0.Value.Words,I p0x0.Version.Major,I p0x0.Version.Minor,I p0x0.Version.Patch,.list 11 (p0x0.Kids.map Query.av)])]⟩) ?_ ?_
  · refine tR<|ARun.qv (q_load_ptr_all J J .p0 J) J<|bndE h fun v3 e1 h=>t_call1 J (Q_leaves_c e1) (CoL.refl _) .nil (fun _=>J) J fun b4=>ARun.qv (t_len_sl J) J<|ARun.qv (q_gtr J J) J<|rM J J<|ARun.guard_df J J J (fun hc=>?_) (fun hc=>?_)
    · exact have h := iteF hc h; ARun.qv (q_load_ptr_all J J .p1 J) J<|rY J J J<|bndE h fun v5 e2 h=>r_callp J (Q_deep_c e2) (CoL.refl _) J<|rY J J J<|ARun.qv (q_gtr J J) J<|rE J J J<|rN<|ATodo.stop<|ImpX.lq [1] ⟨decide ((20 : Int) < v5),h,J⟩ J J
    · exact have h := iteT hc h; rG J J J J<|rG J J J J<|rT J J J<|rN<|ATodo.stop<|ImpX.lq [1] ⟨true,h,J⟩ J J
  · rintro σ' ⟨c2, h, rfl⟩
    unfold Q_QueryFault_j1 at h
    refine ATodo.cond J (fun hc=>?_) (fun hc=>?_)
    · refine have h := iteT hc h; tSR<|rA J J<|rN<|ATodo.ret<|?_
      obtain rfl := Option.some.inj h
      exact ImpX.here ⟨_,.cons (.tmp _ _ J) .nil,J⟩
    · refine have h := iteFb hc h; tK<|tSR<|ARun.qv (q_load_ptr_all J J .p0 J) J<|bndE h fun v6 e3 h=>r_callp J (Q_oneQuery_c e3) (CoL.refl _) J<|rA J J<|rN<|ATodo.ret<|?_
      obtain rfl := Option.some.inj h
      exact ImpX.here ⟨_,.cons (.tmp _ _ J) .nil,J⟩

theorem Q_WindowFault_c [GI : GTab] {p0x0 : Window} {r : Int} (h : Q_WindowFault p0x0 = r) : Pu Tryz.prog 74 [.agg [I p0x0.From,I p0x0.To]] (I r) := by
  unfold Q_WindowFault at h
  refine ACall.bodyN Tryz.func74 J Tryz.ntmps74 Tryz.results74 J J ?_
  refine tSR<|n_box J J J J fun b1=>rA J J<|rN<|tS<|tS<|ATodo.cut (fun σ'=>∃ (c2 : Bool),Q_WindowFault_j1 c2 = r ∧ σ' = ⟨14,[(13,.bool c2)],[]⟩) ?_ ?_
  · refine tR<|rF J J J<|rL J J .p0 J J<|rF J J J<|rL J J .p0 J J<|r_callp J (Q_in_c J) (CoL.refl _) J<|ARun.qv (q_not J) J<|rM J J<|ARun.guard J J J (fun hc=>?_) (fun hc=>?_)
    · rw [orFb hc] at h
      exact rF J J J<|rY J J J<|rL J J .p0 J J<|rY J J J<|ARun.qv (q_gtr J J) J<|rE J J J<|rN<|ATodo.stop<|ImpX.lq [] ⟨decide ((345686400000 : Int) < p0x0.To),h,J⟩ J J
    · rw [orTb hc] at h
      exact rG J J J J<|rG J J J J<|rT J J J<|rN<|ATodo.stop<|ImpX.lq [] ⟨true,h,J⟩ J J
  · rintro σ' ⟨c2, h, rfl⟩
    unfold Q_WindowFault_j1 at h
    refine ATodo.cond J (fun hc=>?_) (fun hc=>?_)
    · refine have h := iteT hc h; tSR<|rA J J<|rN<|ATodo.ret<|?_
      obtain rfl := h
      exact ImpX.here ⟨_,.cons (.tmp _ _ J) .nil,J⟩
    · refine have h := iteFb hc h; tK<|tSR<|rA J J<|rN<|ATodo.ret<|?_
      obtain rfl := h
      exact ImpX.here ⟨_,.cons (.tmp _ _ J) .nil,J⟩

theorem cmp_Or_Errno_c [GI : GTab] {p0x0 : List Int} {r : Int} (h : cmp_Or_Errno p0x0 = some r) : Pu Tryz.prog 31 [.list 1 (p0x0.map I)] (I r) := by
  unfold cmp_Or_Errno at h
  refine ACall.bodyN Tryz.func31 J Tryz.ntmps31 Tryz.results31 J J ?_
  refine tSR<|rA J J<|rN<|tSR<|rA J J<|rN<|tS<|tSR<|rM J J<|ARun.qv (t_len J) J<|rM J J<|rN<|ATodo.block<|ATodo.loopI (fun x : Int=>cmp_Or_Errno_b1 p0x0 x) (fun x σ'=>σ' = ⟨18,[(3,I (0 : Int)),(6,.list 1 (p0x0.map I)),(7,I (p0x0.length : Int)),(8,I x)],[]⟩) h ?_ ?_
  · exact ImpX.lq [] J J J
  · intro n2 z1 σ' J1 hmk h hJ1 hA1
    obtain rfl := hmk
    replace h : cmp_Or_Errno_b1 p0x0 n2 = some z1 := h
    unfold cmp_Or_Errno_b1 at h
    refine tSR<|ARun.qv (q_lss J J) J<|rN<|tS<|ATodo.cond_d J (fun hc=>?_) (fun hc=>?_)
    · refine have h := iteT hc h; tK<|tS<|ATodo.block<|tSR<|bndE h fun v3 e1 h=>ARun.qv (t_index J J J e1 J J) J<|ARun.qv (q_load_rptr J J J) J<|rA J J<|rN<|tSR<|rM J J<|rM J J<|ARun.qv (q_neq J J) J<|rN<|ATodo.cond_d J (fun hc=>?_) (fun hc=>?_)
      · refine have h := iteT hc h; tSR<|rM J J<|rA J J<|rN<|ATodo.ret<|have h := outL h hA1; ?_
        obtain rfl := Option.some.inj h
        exact ImpX.here ⟨_,.cons (.tmp _ _ J) .nil,J⟩
      · refine have h := iteF hc h; tK<|ATodo.blk<|tR<|ARun.qv (q_addw J J) J<|rM J J<|rN<|ATodo.stop<|?_
        obtain rfl := Option.some.inj h
        exact hJ1 _ _ J<|ImpX.lq [] J J J
    · refine have h := iteF hc h; ATodo.exit J<|have h := outL h hA1; tSR<|rM J J<|rA J J<|rN<|ATodo.ret<|?_
      obtain rfl := Option.some.inj h
      exact ImpX.here ⟨_,.cons (.tmp _ _ J) .nil,J⟩

theorem Q_OrgFault_c {p0x0 : Org} {r : Int} (h : Q_OrgFault p0x0 = some r) : Pu Tryz.prog 13 [.agg [.list 2 (p0x0.Tenants.map Tenant.av),.list 2 (p0x0.Roles.map Role.av),.list 3 (p0x0.Members.map Member.av),.list 17 (p0x0.Shares.map Share.av)]] (I r) := by
  unfold Q_OrgFault at h
  refine ACall.bodyN Tryz.func13 J Tryz.ntmps13 Tryz.results13 J J ?_
  refine tSR<|n_box J J J J fun b1=>rA J J<|rN<|tS<|tSR<|ARun.qv (q_load_ptr_all J J .p0 J) J<|bndE h fun v2 e1 h=>r_callp J (Q_tenantsFault_c e1) (CoL.refl _) J<|rA J J<|rN<|tSR<|rM J J<|ARun.qv (q_neq J J) J<|rN<|ATodo.cond_d J (fun hc=>?_) (fun hc=>?_)
  · refine have h := iteT hc h; tSR<|rM J J<|rA J J<|rN<|ATodo.ret<|?_
    obtain rfl := Option.some.inj h
    exact ImpX.here ⟨_,.cons (.tmp _ _ J) .nil,J⟩
  · refine have h := iteF hc h; tK<|tS<|tSR<|ARun.qv (q_load_ptr_all J J .p0 J) J<|bndE h fun v3 e2 h=>r_callp J (Q_rolesFault_c e2) (CoL.refl _) J<|rA J J<|rN<|tSR<|rM J J<|ARun.qv (q_neq J J) J<|rN<|ATodo.cond_d J (fun hc=>?_) (fun hc=>?_)
    · refine have h := iteT hc h; tSR<|rM J J<|rA J J<|rN<|ATodo.ret<|?_
      obtain rfl := Option.some.inj h
      exact ImpX.here ⟨_,.cons (.tmp _ _ J) .nil,J⟩
    · refine have h := iteF hc h; tK<|tS<|tSR<|rF J J J<|rL J J .p0 J J<|ARun.qv (t_len J) J<|ARun.qv (q_gtr J J) J<|rN<|ATodo.cond_d J (fun hc=>?_) (fun hc=>?_)
      · refine have h := iteT hc h; tSR<|rA J J<|rN<|ATodo.ret<|?_
        obtain rfl := Option.some.inj h
        exact ImpX.here ⟨_,.cons (.tmp _ _ J) .nil,J⟩
      · refine have h := iteF hc h; tK<|tS<|tSR<|rF J J J<|rL J J .p0 J J<|ARun.qv (t_len J) J<|rM J J<|rN<|ATodo.block<|ATodo.loopI (fun x : Int=>Q_OrgFault_b1 p0x0 x) (fun x σ'=>σ' = ⟨95,[(1,.ptr b1 0),(23,.list 17 (p0x0.Shares.map Share.av)),(24,I (p0x0.Shares.length : Int)),(25,I x)],[(b1,.cells [.list 2 (p0x0.Tenants.map Tenant.av),.list 2 (p0x0.Roles.map Role.av),.list 3 (p0x0.Members.map Member.av),.list 17 (p0x0.Shares.map Share.av)])]⟩) h ?_ ?_
        · exact ImpX.lq [0] J J J
        · intro n5 z1 σ' J1 hmk h hJ1 hA1
          obtain rfl := hmk
          replace h : Q_OrgFault_b1 p0x0 n5 = some z1 := h
          unfold Q_OrgFault_b1 at h
          refine tSR<|ARun.qv (q_lss J J) J<|rN<|tS<|ATodo.cond_d J (fun hc=>?_) (fun hc=>?_)
          · refine have h := iteT hc h; tK<|tS<|ATodo.block<|tSR<|rM J J<|bndE h fun v6 e3 h=>ARun.qv (t_index J J J e3 J J) J<|ARun.qv (q_load_rptr_agg J J J) J<|n_alloc J J J J fun b7=>rA J J<|n_store_ptr J J J J .p0 J J<|rN<|tS<|ATodo.block<|tSR<|rF J J J<|rL J J .p0 J J<|bndE h fun v8 e4 h=>r_callp J (Q_Key_c e4) (CoL.refl _) J<|ARun.qv (q_not J) J<|rA J J<|rN<|ATodo.cond J (fun hc=>?_) (fun hc=>?_)
            · refine have h := iteT hc h; tSR<|rA J J<|rN<|ATodo.ret<|have h := outL h hA1; ?_
              obtain rfl := Option.some.inj h
              exact ImpX.here ⟨_,.cons (.tmp _ _ J) .nil,J⟩
            · refine have h := iteFb hc h; tS<|ATodo.cut (fun σ'=>∃ (c9 : Bool),Q_OrgFault_j1 p0x0 n5 v6 c9 = some z1 ∧ σ' = ⟨95,[(1,.ptr b1 0),(6,.ptr b7 0),(23,.list 17 (p0x0.Shares.map Share.av)),(24,I (p0x0.Shares.length : Int)),(25,I n5),(35,.bool c9)],[(b1,.cells [.list 2 (p0x0.Tenants.map Tenant.av),.list 2 (p0x0.Roles.map Role.av),.list 3 (p0x0.Members.map Member.av),.list 17 (p0x0.Shares.map Share.av)]),(b7,.cells [.str v6.Key,.str v6.From,.str v6.To,I v6.Query.Kind,.str v6.Query.Field,.str v6.Query.Op,I v6.Query.Value.Kind,.bool v6.Query.Value.Flag,I v6.Query.Value.Number,.str v6.Query.Value.Words,I v6.Query.Version.Major,I v6.Query.Version.Minor,I v6.Query.Version.Patch,.list 11 (v6.Query.Kids.map Query.av),.list 1 (v6.Acts.map AV.str),I v6.Time.From,I v6.Time.To])]⟩) ?_ ?_
              · refine ATodo.regionM (id := 14) (A := [0,1,3,7,15,7,39,7,135,487,999,2023,4095,8191,16383]) 15 mixed J (by kernel_rfl) (by kernel_rfl)<|AM.qv (q_move J) J<|AM.qv (q_gtr J J) J<|AM.qv (q_move J) J<|AM.guard_dt J J J (fun hc=>?_) (fun hc=>?_)
                · exact have h := iteT hc h; AM.qv (n_field_ptr J J) J<|AM.guard_yes J J J<|AM.qv (q_load_ptr J J .p0 J) J<|AM.guard_yes J J J<|AM.qv (n_field_ptr J J) J<|AM.guard_yes J J J<|AM.qv (q_load_ptr J J .p1 J) J<|AM.guard_yes J J J<|AM.qv (q_move J) J<|AM.guard_yes J J J<|AM.qv (q_subw J J) J<|AM.guard_yes J J J<|bndE h fun v10 e5 h=>AM.qv (t_index J J J e5 J J) J<|AM.guard_yes J J J<|AM.qv (n_field_rptr J J) J<|AM.guard_yes J J J<|AM.qv (q_load_rptr J J J) J<|AM.guard_yes J J J<|AM.qv (t_sleq J J) J<|AM.qv (q_pick_t J J) J<|AM.qv (q_assign J) J<|AM.nil<|rN<|ATodo.stop<|ImpX.lq [1,0] ⟨Op.bytesLess v6.Key v10.Key || v6.Key == v10.Key,h,J⟩ J J
                · exact have h := iteF hc h; AM.guard_no J J J J<|AM.guard_no J J J J<|AM.guard_no J J J J<|AM.guard_no J J J J<|AM.guard_no J J J J<|AM.guard_no J J J J<|AM.guard_no J J J J<|AM.guard_no J J J J<|AM.guard_no J J J J<|AM.qv (q_pick_f J J) J<|AM.qv (q_assign J) J<|AM.nil<|rN<|ATodo.stop<|ImpX.lq [1,0] ⟨false,h,J⟩ J J
              · rintro σ' ⟨c9, h, rfl⟩
                unfold Q_OrgFault_j1 at h
                refine ATodo.cond J (fun hc=>?_) (fun hc=>?_)
                · refine have h := iteT hc h; tSR<|rA J J<|rN<|ATodo.ret<|have h := outL h hA1; ?_
                  obtain rfl := Option.some.inj h
                  exact ImpX.here ⟨_,.cons (.tmp _ _ J) .nil,J⟩
                · refine have h := iteFb hc h; tS<|ATodo.cut (fun σ'=>∃ (c11 : Bool),Q_OrgFault_j2 p0x0 n5 v6 c11 = some z1 ∧ σ' = ⟨95,[(1,.ptr b1 0),(6,.ptr b7 0),(23,.list 17 (p0x0.Shares.map Share.av)),(24,I (p0x0.Shares.length : Int)),(25,I n5),(50,.bool c11)],[(b1,.cells [.list 2 (p0x0.Tenants.map Tenant.av),.list 2 (p0x0.Roles.map Role.av),.list 3 (p0x0.Members.map Member.av),.list 17 (p0x0.Shares.map Share.av)]),(b7,.cells [.str v6.Key,.str v6.From,.str v6.To,I v6.Query.Kind,.str v6.Query.Field,.str v6.Query.Op,I v6.Query.Value.Kind,.bool v6.Query.Value.Flag,I v6.Query.Value.Number,.str v6.Query.Value.Words,I v6.Query.Version.Major,I v6.Query.Version.Minor,I v6.Query.Version.Patch,.list 11 (v6.Query.Kids.map Query.av),.list 1 (v6.Acts.map AV.str),I v6.Time.From,I v6.Time.To])]⟩) ?_ ?_
                  · refine tR<|ARun.qv (q_load_ptr_all J J .p0 J) J<|rF J J J<|rL J J .p1 J J<|bndE h fun v12 e6 h=>r_callp J (Q_tenantAt_c e6) (CoL.refl _) J<|ARun.qv (q_lss J J) J<|rM J J<|ARun.guard_df J J J (fun hc=>?_) (fun hc=>?_)
                    · exact have h := iteF hc h; ARun.qv (q_load_ptr_all J J .p0 J) J<|rY J J J<|rF J J J<|rY J J J<|rL J J .p1 J J<|rY J J J<|bndE h fun v13 e7 h=>r_callp J (Q_tenantAt_c e7) (CoL.refl _) J<|rY J J J<|ARun.qv (q_lss J J) J<|rE J J J<|rA J J<|rN<|ATodo.stop<|ImpX.lq [0,0] ⟨decide (v13 < (0 : Int)),h,J⟩ J J
                    · exact have h := iteT hc h; rG J J J J<|rG J J J J<|rG J J J J<|rG J J J J<|rT J J J<|rA J J<|rN<|ATodo.stop<|ImpX.lq [0,0] ⟨true,h,J⟩ J J
                  · rintro σ' ⟨c11, h, rfl⟩
                    unfold Q_OrgFault_j2 at h
                    refine ATodo.cond J (fun hc=>?_) (fun hc=>?_)
                    · refine have h := iteT hc h; tSR<|rA J J<|rN<|ATodo.ret<|have h := outL h hA1; ?_
                      obtain rfl := Option.some.inj h
                      exact ImpX.here ⟨_,.cons (.tmp _ _ J) .nil,J⟩
                    · refine have h := iteFb hc h; tS<|ATodo.cut (fun σ'=>∃ (c14 : Bool),Q_OrgFault_j3 n5 v6 c14 = some z1 ∧ σ' = ⟨95,[(1,.ptr b1 0),(6,.ptr b7 0),(23,.list 17 (p0x0.Shares.map Share.av)),(24,I (p0x0.Shares.length : Int)),(25,I n5),(63,.bool c14)],[(b1,.cells [.list 2 (p0x0.Tenants.map Tenant.av),.list 2 (p0x0.Roles.map Role.av),.list 3 (p0x0.Members.map Member.av),.list 17 (p0x0.Shares.map Share.av)]),(b7,.cells [.str v6.Key,.str v6.From,.str v6.To,I v6.Query.Kind,.str v6.Query.Field,.str v6.Query.Op,I v6.Query.Value.Kind,.bool v6.Query.Value.Flag,I v6.Query.Value.Number,.str v6.Query.Value.Words,I v6.Query.Version.Major,I v6.Query.Version.Minor,I v6.Query.Version.Patch,.list 11 (v6.Query.Kids.map Query.av),.list 1 (v6.Acts.map AV.str),I v6.Time.From,I v6.Time.To])]⟩) ?_ ?_
                      · refine ATodo.regionM (id := 18) (A := [0,0,2,7,0,16,63,127,255,255,767,2047,255,4351,16383,32767,65535]) 17 mixed J (by kernel_rfl) (by kernel_rfl)<|AM.qv (q_load_ptr_all J J .p0 J) J<|AM.qv (n_field_ptr J J) J<|AM.qv (q_load_ptr J J .p1 J) J<|bndE h fun v15 e8 h=>AM.callp J (Q_pathOf_c e8) (CoL.refl _) J<|AM.qv (n_field_ptr J J) J<|AM.qv (q_load_ptr J J .p1 J) J<|bndE h fun v16 e9 h=>AM.callp J (slices_Contains_string_string_c e9) (CoL.refl _) J<|AM.qv (q_move J) J<|AM.guard J J J (fun hc=>?_) (fun hc=>?_)
                        · exact have h := iteFb hc h; AM.qv (q_load_ptr_all J J .p0 J) J<|AM.guard_yes J J J<|AM.qv (n_field_ptr J J) J<|AM.guard_yes J J J<|AM.qv (q_load_ptr J J .p1 J) J<|AM.guard_yes J J J<|bndE h fun v17 e10 h=>AM.callp J (Q_pathOf_c e10) (CoL.refl _) J<|AM.guard_yes J J J<|AM.qv (n_field_ptr J J) J<|AM.guard_yes J J J<|AM.qv (q_load_ptr J J .p1 J) J<|AM.guard_yes J J J<|bndE h fun v18 e11 h=>AM.callp J (slices_Contains_string_string_c e11) (CoL.refl _) J<|AM.qv (q_pick_f J J) J<|AM.qv (q_assign J) J<|AM.nil<|rN<|ATodo.stop<|ImpX.lq [0,0] ⟨v18,h,J⟩ J J
                        · exact have h := iteT hc h; AM.guard_no J J J J<|AM.guard_no J J J J<|AM.guard_no J J J J<|AM.guard_no J J J J<|AM.guard_no J J J J<|AM.guard_no J J J J<|AM.qv (q_pick_t J J) J<|AM.qv (q_assign J) J<|AM.nil<|rN<|ATodo.stop<|ImpX.lq [0,0] ⟨true,h,J⟩ J J
                      · rintro σ' ⟨c14, h, rfl⟩
                        unfold Q_OrgFault_j3 at h
                        refine ATodo.cond J (fun hc=>?_) (fun hc=>?_)
                        · refine have h := iteT hc h; tSR<|rA J J<|rN<|ATodo.ret<|have h := outL h hA1; ?_
                          obtain rfl := Option.some.inj h
                          exact ImpX.here ⟨_,.cons (.tmp _ _ J) .nil,J⟩
                        · refine have h := iteFb hc h; tK<|ATodo.blk<|tS<|ATodo.regionM (id := 20) (A := [0,1,3,0,8,31,0,64,255,511,1023,2047]) 12 mixed J (by kernel_rfl) (by kernel_rfl)<|AM.qv (n_field_ptr J J) J<|AM.qv (n_load_ptr_part J J .p1 J J) J<|bndE h fun v19 e12 h=>AM.callp J (Q_QueryFault_c e12) (CoL.refl _) J<|AM.qv (n_field_ptr J J) J<|AM.qv (q_load_ptr J J .p1 J) J<|bndE h fun v20 e13 h=>AM.callp J (Q_someActs_c e13) (CoL.refl _) J<|AM.qv (n_field_ptr J J) J<|AM.qv (n_load_ptr_part J J .p1 J J) J<|AM.callp J (Q_WindowFault_c J) (CoL.refl _) J<|AM.buildSliceL (xs := ([v19,v20,(Q_WindowFault v6.Time)] : List Int).map I) J J J J J J<|bndE h fun v21 e14 h=>AM.callp J (cmp_Or_Errno_c e14) (CoL.refl _) J<|AM.qv (q_assign J) J<|AM.nil<|rN<|tSR<|rM J J<|ARun.qv (q_neq J J) J<|rN<|ATodo.cond_d J (fun hc=>?_) (fun hc=>?_)
                          · refine have h := iteT hc h; tSR<|rM J J<|rA J J<|rN<|ATodo.ret<|have h := outL h hA1; ?_
                            obtain rfl := Option.some.inj h
                            exact ImpX.here ⟨_,.cons (.tmp _ _ J) .nil,J⟩
                          · refine have h := iteF hc h; tK<|ATodo.blk<|tR<|ARun.qv (q_addw J J) J<|rM J J<|rN<|ATodo.stop<|?_
                            obtain rfl := Option.some.inj h
                            exact hJ1 _ _ J<|ImpX.lq [0] J J J
          · refine have h := iteF hc h; ATodo.exit J<|have h := outL h hA1; tSR<|rA J J<|rN<|ATodo.ret<|?_
            obtain rfl := Option.some.inj h
            exact ImpX.here ⟨_,.cons (.tmp _ _ J) .nil,J⟩

theorem tenant_newView_c [GI : GTab] {p0x0 : Org} {r : Tenant_view} (h : tenant_newView p0x0 = some r) : ACall Tryz.prog 151 [.agg [.list 2 (p0x0.Tenants.map Tenant.av),.list 2 (p0x0.Roles.map Role.av),.list 3 (p0x0.Members.map Member.av),.list 17 (p0x0.Shares.map Share.av)]] [] (T6 (fun d_0 d_0x4 d_0x5 d_0x6 d_0x7 d_0x8=>[(d_0,.cells [.list 2 (r.Org.Tenants.map Tenant.av),.list 2 (r.Org.Roles.map Role.av),.list 3 (r.Org.Members.map Member.av),.list 17 (r.Org.Shares.map Share.av),.mref d_0x4,.mref d_0x5,.mref d_0x6,.mref d_0x7,.mref d_0x8]),(d_0x4,.mp (r.parent_.map (fun e=>(AV.str e.1,AV.str e.2)))),(d_0x5,.mp (r.acts_.map (fun e=>(AV.str e.1,(encL 1 AV.str) e.2)))),(d_0x6,.mp (r.at_.map (fun e=>(AV.str e.1,(encL 1 I) e.2)))),(d_0x7,.mp (r.found_.map (fun e=>(Tenant_asks.av e.1,(encL 1 I) e.2)))),(d_0x8,.mp (r.wider_.map (fun e=>(Tenant_asks.av e.1,AV.bool e.2))))]) (fun d_0 d_0x4 d_0x5 d_0x6 d_0x7 d_0x8=>.ptr d_0 0)) := by
  unfold tenant_newView at h
  refine ACall.lessH ?_
  refine ACall.bodyN Tryz.func151 J Tryz.ntmps151 Tryz.results151 J J ?_
  refine tSR<|n_box J J J J fun b1=>rA J J<|rN<|tSR<|ARun.qv (q_load_ptr_all J J .p0 J) J<|t_makeMap J fun b2=>t_makeMap J fun b3=>t_makeMapO (gk := AV.str) (kp := (keptS 1 I)) (β := (fun _=>⟨none,0⟩)) J fun b4 b5=>t_makeMap J fun b6=>t_makeMap J fun b7=>ARun.qv (n_build J J J J J) J<|n_box J J J J fun b8=>rA J J<|rN<|tS<|tSR<|rF J J J<|rL J J .p7 J J<|ARun.qv (t_len J) J<|rM J J<|rN<|ATodo.block<|ATodo.loopI (fun x : (List (Str × Str)) × Int=>tenant_newView_b1 p0x0 x.1 x.2) (fun x σ'=>σ' = ⟨76,[(1,.ptr b1 0),(3,.ptr b8 0),(19,.list 2 (p0x0.Tenants.map Tenant.av)),(20,I (p0x0.Tenants.length : Int)),(21,I x.2)],[(b1,.cells [.list 2 (p0x0.Tenants.map Tenant.av),.list 2 (p0x0.Roles.map Role.av),.list 3 (p0x0.Members.map Member.av),.list 17 (p0x0.Shares.map Share.av)]),(b8,.cells [.list 2 (p0x0.Tenants.map Tenant.av),.list 2 (p0x0.Roles.map Role.av),.list 3 (p0x0.Members.map Member.av),.list 17 (p0x0.Shares.map Share.av),.mref b2,.mref b3,.mref b4,.mref b6,.mref b7]),(b2,.mp (x.1.map (fun e=>(AV.str e.1,AV.str e.2)))),(b3,.mp (([] : List (Str × (List Str))).map (fun e=>(AV.str e.1,(encL 1 AV.str) e.2)))),(b4,.mp (mapE AV.str (keptS 1 I) (fun _=>⟨none,0⟩) ([] : List (Str × (List Int))))),(b5,.pool (poolE (keptS 1 I) (fun _=>⟨none,0⟩) ([] : List (Str × (List Int))))),(b6,.mp (([] : List (Tenant_asks × (List Int))).map (fun e=>(Tenant_asks.av e.1,(encL 1 I) e.2)))),(b7,.mp (([] : List (Tenant_asks × Bool)).map (fun e=>(Tenant_asks.av e.1,AV.bool e.2))))]⟩) h ?_ ?_
  · exact ImpX.lq [7,0,5,4,2,2,1,0] J J J
  · intro x z1 σ' J1 hmk h hJ1 hA1
    obtain ⟨l11, n12⟩ := x
    obtain rfl := hmk
    replace h : tenant_newView_b1 p0x0 l11 n12 = some z1 := h
    unfold tenant_newView_b1 at h
    refine tSR<|ARun.qv (q_lss J J) J<|rN<|tS<|ATodo.cond_d J (fun hc=>?_) (fun hc=>?_)
    · refine have h := iteT hc h; tK<|tS<|ATodo.block<|tSR<|bndE h fun v13 e1 h=>ARun.qv (t_index J J J e1 J J) J<|ARun.qv (q_load_rptr_agg J J J) J<|n_alloc J J J J fun b14=>n_store_ptr J J J J .p0 J J<|rN<|ATodo.regionM (id := 5) (A := [0,1,3,7,0,16,0,64,255]) 8 mixed J (by kernel_rfl) (by kernel_rfl)<|AM.qv (q_move J) J<|AM.qv (q_nilCheck_ptr J) J<|AM.qv (n_field_ptr J J) J<|AM.qv (q_load_ptr J J .p2 J) J<|AM.qv (n_field_ptr J J) J<|AM.qv (q_load_ptr J J .p0 J) J<|AM.qv (n_field_ptr J J) J<|AM.qv (q_load_ptr J J .p0 J) J<|AM.nil<|t_mapUpdate (gk := AV.str) (gv := AV.str) (M := l11) (key := v13.Key) (v := v13.Parent) J J J J .p3<|rN<|ATodo.blk<|tR<|ARun.qv (q_addw J J) J<|rM J J<|rN<|ATodo.stop<|?_
      obtain rfl := Option.some.inj h
      exact hJ1 _ _ J<|ImpX.lq [1,1,1,1,1,1,1,1] J J J
    · refine have h := iteF hc h; ATodo.exit J<|have h := outL h hA1; tS<|tSR<|rF J J J<|rL J J .p0 J J<|ARun.qv (t_len J) J<|rM J J<|rN<|ATodo.block<|ATodo.loopI (fun x : (List (Str × (List Str))) × Int=>tenant_newView_b2 p0x0 l11 x.1 x.2) (fun x σ'=>σ' = ⟨76,[(1,.ptr b1 0),(3,.ptr b8 0),(35,.list 2 (p0x0.Roles.map Role.av)),(36,I (p0x0.Roles.length : Int)),(37,I x.2)],[(b1,.cells [.list 2 (p0x0.Tenants.map Tenant.av),.list 2 (p0x0.Roles.map Role.av),.list 3 (p0x0.Members.map Member.av),.list 17 (p0x0.Shares.map Share.av)]),(b8,.cells [.list 2 (p0x0.Tenants.map Tenant.av),.list 2 (p0x0.Roles.map Role.av),.list 3 (p0x0.Members.map Member.av),.list 17 (p0x0.Shares.map Share.av),.mref b2,.mref b3,.mref b4,.mref b6,.mref b7]),(b2,.mp (l11.map (fun e=>(AV.str e.1,AV.str e.2)))),(b3,.mp (x.1.map (fun e=>(AV.str e.1,(encL 1 AV.str) e.2)))),(b4,.mp (mapE AV.str (keptS 1 I) (fun _=>⟨none,0⟩) ([] : List (Str × (List Int))))),(b5,.pool (poolE (keptS 1 I) (fun _=>⟨none,0⟩) ([] : List (Str × (List Int))))),(b6,.mp (([] : List (Tenant_asks × (List Int))).map (fun e=>(Tenant_asks.av e.1,(encL 1 I) e.2)))),(b7,.mp (([] : List (Tenant_asks × Bool)).map (fun e=>(Tenant_asks.av e.1,AV.bool e.2))))]⟩) h ?_ ?_
      · exact ImpX.lq [0,0,0,0,0,0,0,0] J J J
      · intro x z2 σ' J2 hmk h hJ2 hA2
        obtain ⟨l17, n18⟩ := x
        obtain rfl := hmk
        replace h : tenant_newView_b2 p0x0 l11 l17 n18 = some z2 := h
        unfold tenant_newView_b2 at h
        refine tSR<|ARun.qv (q_lss J J) J<|rN<|tS<|ATodo.cond_d J (fun hc=>?_) (fun hc=>?_)
        · refine have h := iteT hc h; tK<|tS<|ATodo.block<|tSR<|bndE h fun v19 e2 h=>ARun.qv (t_index J J J e2 J J) J<|ARun.qv (q_load_rptr_agg J J J) J<|n_alloc J J J J fun b20=>n_store_ptr J J J J .p0 J J<|rN<|ATodo.regionM (id := 10) (A := [0,1,3,7,0,16,0,64,255]) 8 mixed J (by kernel_rfl) (by kernel_rfl)<|AM.qv (q_move J) J<|AM.qv (q_nilCheck_ptr J) J<|AM.qv (n_field_ptr J J) J<|AM.qv (q_load_ptr J J .p2 J) J<|AM.qv (n_field_ptr J J) J<|AM.qv (q_load_ptr J J .p0 J) J<|AM.qv (n_field_ptr J J) J<|AM.qv (q_load_ptr J J .p0 J) J<|AM.nil<|t_mapUpdate (gk := AV.str) (gv := (encL 1 AV.str)) (M := l17) (key := v19.Key) (v := v19.Acts) J J J J .p4<|rN<|ATodo.blk<|tR<|ARun.qv (q_addw J J) J<|rM J J<|rN<|ATodo.stop<|?_
          obtain rfl := Option.some.inj h
          exact hJ2 _ _ J<|ImpX.lq [1,1,1,1,1,1,1,1] J J J
        · refine have h := iteF hc h; ATodo.exit J<|have h := outL h hA2; tS<|tSR<|rF J J J<|rL J J .p0 J J<|ARun.qv (t_len J) J<|rM J J<|rN<|ATodo.block<|ATodo.loopI (fun x : (List (Str × (List Int))) × Int=>tenant_newView_b3 p0x0 l11 l17 x.1 x.2) (fun x σ'=>∃ (be25 : Str → Bk),σ' = ⟨76,[(3,.ptr b8 0),(51,.list 3 (p0x0.Members.map Member.av)),(52,I (p0x0.Members.length : Int)),(53,I x.2)],[(b8,.cells [.list 2 (p0x0.Tenants.map Tenant.av),.list 2 (p0x0.Roles.map Role.av),.list 3 (p0x0.Members.map Member.av),.list 17 (p0x0.Shares.map Share.av),.mref b2,.mref b3,.mref b4,.mref b6,.mref b7]),(b2,.mp (l11.map (fun e=>(AV.str e.1,AV.str e.2)))),(b3,.mp (l17.map (fun e=>(AV.str e.1,(encL 1 AV.str) e.2)))),(b4,.mp (mapE AV.str (keptS 1 I) be25 x.1)),(b5,.pool (poolE (keptS 1 I) be25 x.1)),(b6,.mp (([] : List (Tenant_asks × (List Int))).map (fun e=>(Tenant_asks.av e.1,(encL 1 I) e.2)))),(b7,.mp (([] : List (Tenant_asks × Bool)).map (fun e=>(Tenant_asks.av e.1,AV.bool e.2))))]⟩) h ?_ ?_
          · exact ImpX.lq [1,1,1,1,1,1,1] ⟨(fun _=>⟨none,0⟩),J⟩ J J
          · intro x z3 σ' J3 hmk h hJ3 hA3
            obtain ⟨l24, n26⟩ := x
            obtain ⟨be25, rfl⟩ := hmk
            replace h : tenant_newView_b3 p0x0 l11 l17 l24 n26 = some z3 := h
            unfold tenant_newView_b3 at h
            refine tSR<|ARun.qv (q_lss J J) J<|rN<|tS<|ATodo.cond_d J (fun hc=>?_) (fun hc=>?_)
            · refine have h := iteT hc h; tK<|tS<|ATodo.block<|tSR<|rM J J<|bndE h fun v27 e3 h=>ARun.qv (t_index J J J e3 J J) J<|ARun.qv (q_load_rptr_agg J J J) J<|n_alloc J J J J fun b28=>rA J J<|n_store_ptr J J J J .p0 J J<|rN<|bndE h fun v29 e4 h=>bndE h fun l31 e5 h=>ATodo.regionT (id := 15) (A := [0,1,3,7,0,16,0,64,192,448,0,1024,4032,0,8192,32704,65535]) (H0 := [(b4,.mp (mapE AV.str (keptS 1 I) be25 l24)),(b5,.pool (poolE (keptS 1 I) be25 l24))]) (HH := fun β=>[(b4,.mp (mapE AV.str (keptS 1 I) be25 l24)),(b5,.pool (poolE (keptS 1 I) be25 (mdel l24 v27.Tenant))),((β 15),.arr 1 (l31.map I)),(b28,.cells [.str v27.User,.str v27.Tenant,.str v27.Role]),(b8,.cells [.list 2 (p0x0.Tenants.map Tenant.av),.list 2 (p0x0.Roles.map Role.av),.list 3 (p0x0.Members.map Member.av),.list 17 (p0x0.Shares.map Share.av),.mref b2,.mref b3,.mref b4,.mref b6,.mref b7]),(b2,.mp (l11.map (fun e=>(AV.str e.1,AV.str e.2)))),(b3,.mp (l17.map (fun e=>(AV.str e.1,(encL 1 AV.str) e.2)))),(b6,.mp (([] : List (Tenant_asks × (List Int))).map (fun e=>(Tenant_asks.av e.1,(encL 1 I) e.2)))),(b7,.mp (([] : List (Tenant_asks × Bool)).map (fun e=>(Tenant_asks.av e.1,AV.bool e.2))))]) 16 mixed J (by kernel_rfl) (by kernel_rfl) [⟨none,some 12,[],fun _=>(b4,.mp (mapE AV.str (keptS 1 I) be25 l24)),none⟩,⟨none,some 12,[],fun _=>(b5,.pool (poolE (keptS 1 I) be25 l24)),none⟩,⟨some 12,some 15,[],fun b=>(b,.arr 1 (v29.map I)),none⟩,⟨some 12,none,[],fun b=>(b4,.mp (mapE AV.str (keptS 1 I) be25 l24)),none⟩,⟨some 12,none,[],fun b=>(b5,.pool (poolE (keptS 1 I) be25 (mdel l24 v27.Tenant))),none⟩,⟨some 15,none,[],fun b=>(b,.arr 1 (l31.map I)),none⟩] [12,15] J (by kernel_rfl) J (.cons .p4 (.cons .p4 .nil)) (fun _=>J)<|AT.am 12 J J<|AM.qv (q_move J) J<|AM.qv (q_nilCheck_ptr J) J<|AM.qv (n_field_ptr J J) J<|AM.qv (q_load_ptr J J .p1 J) J<|AM.qv (n_field_ptr J J) J<|AM.qv (q_load_ptr J J .p0 J) J<|AM.qv (q_move J) J<|AM.qv (q_nilCheck_ptr J) J<|AM.qv (n_field_ptr J J) J<|AM.qv (q_load_ptr J J .p1 J) J<|AM.qv (n_field_ptr J J) J<|AM.qv (q_load_ptr J J .p0 J) J<|AM.nil<|AT.runD (V := fun b=>.sl 1 b 0 v29.length) (Ti := [(b4,.mp (mapE AV.str (keptS 1 I) be25 l24)),(b5,.pool (poolE (keptS 1 I) be25 l24))]) (Pi := fun b=>[(b,.arr 1 (v29.map I)),(b4,.mp (mapE AV.str (keptS 1 I) be25 l24)),(b5,.pool (poolE (keptS 1 I) be25 (mdel l24 v27.Tenant)))]) (fun _=>J) (fun _=>J) (fun _ _=>J) J (fun _=>J) J J J ?_ ?_
              · exact t_lookupS (gk := AV.str) (sz := 1) (g := I) (β := be25) (M := l24) (key := v27.Tenant) J J .p0 .p1 J e4 J fun b30 hbe4=>ARun.nil ⟨b30,_,J,J⟩
              refine AT.am 2 J J<|AM.qv (q_move J) J<|AM.buildSliceL (xs := ([n26] : List Int).map I) J J J J J J<|AM.nil<|AT.runE (V := fun b=>.sl 1 b 0 l31.length) (Ti := fun β=>[((β 12),.arr 1 (v29.map I))]) (Pi := fun b=>[(b,.arr 1 (l31.map I))]) (fun _=>J) (fun _=>J) (fun _ _=>J) (fun _=>J) (fun _=>J) J J J (fun β=>?_) ?_
              · generalize β 12 = b30
                exact t_append (g := I) J J J J J J J J (.list _) e5 (fun _=>.p0) J fun b32=>ARun.nil ⟨b32,_,J,J⟩
              refine AT.nilN (fun _=>J) fun β=>?_
              generalize β 12 = b30
              generalize β 15 = b32
              clear β
              refine t_mapUpdateO (gk := AV.str) (kp := (keptS 1 I)) (β := be25) (M := l24) (key := v27.Tenant) (v := l31) (b := b32) J J J J .p0<|ARun.ghost<|ImpX.poolPut (kp := (keptS 1 I)) (β := be25) (M := l24) (key := v27.Tenant) (v := l31) J .p2 .p1<|ImpX.here<|rN<|ATodo.blk<|tR<|ARun.qv (q_addw J J) J<|rM J J<|rN<|ATodo.stop<|?_
              obtain rfl := Option.some.inj h
              exact hJ3 _ _ J<|ImpX.lq [3,3,3,0,0,1,1] ⟨(updK be25 v27.Tenant b32),J⟩ J J
            · refine have h := iteF hc h; ATodo.exit J<|have h := outL h hA3; tSR<|rM J J<|rA J J<|rN<|ATodo.ret<|?_
              obtain rfl := Option.some.inj h
              exact ImpX.mapFro (gk := AV.str) (sz := 1) (g := I) (β := be25) (M := l24) (MKey.inj Tryz.prog 9) .p4 .p3<|ImpX.here ⟨_,.cons (.tmp _ _ J) .nil,_,.cons .p0 (.cons .p0 (.cons .p0 (.cons .p0 (.cons .p0 (.cons .p0 .nil))))),⟨b8,b2,b3,b4,b6,b7,J,J⟩⟩

theorem tenant_view_is_c [GI : GTab] {b_0 : Bk} {b_0x4 : Bk} {b_0x5 : Bk} {b_0x6 : Bk} {b_0x7 : Bk} {b_0x8 : Bk} {p0x0 : Tenant_view} {p1x0 : Str} {r : Bool} (h : tenant_view_is p0x0 p1x0 = some r) : ACall Tryz.prog 81 [.ptr b_0 0,.str p1x0] [(b_0,.cells [.list 2 (p0x0.Org.Tenants.map Tenant.av),.list 2 (p0x0.Org.Roles.map Role.av),.list 3 (p0x0.Org.Members.map Member.av),.list 17 (p0x0.Org.Shares.map Share.av),.mref b_0x4,.mref b_0x5,.mref b_0x6,.mref b_0x7,.mref b_0x8]),(b_0x4,.mp (p0x0.parent_.map (fun e=>(AV.str e.1,AV.str e.2))))] (T0 ([(b_0,.cells [.list 2 (p0x0.Org.Tenants.map Tenant.av),.list 2 (p0x0.Org.Roles.map Role.av),.list 3 (p0x0.Org.Members.map Member.av),.list 17 (p0x0.Org.Shares.map Share.av),.mref b_0x4,.mref b_0x5,.mref b_0x6,.mref b_0x7,.mref b_0x8]),(b_0x4,.mp (p0x0.parent_.map (fun e=>(AV.str e.1,AV.str e.2))))]) (.bool r)) := by
  unfold tenant_view_is at h
  refine ACall.lessH ?_
  refine ACall.bodyN Tryz.func81 J Tryz.ntmps81 Tryz.results81 J J ?_
  refine tSR<|rA J J<|rN<|tSR<|rM J J<|ARun.qv (q_nilCheck_ptr J) J<|rF J J J<|rL J J .p0 J J<|rM J J<|bndE h fun v1 e1 h=>ARun.qv (t_lookup2 (gk := AV.str) (gv := AV.str) (M := p0x0.parent_) (key := p1x0) (Z := []) J J .p1 J J J e1 J) J<|rM J J<|rX J J J<|rX J J J<|rA J J<|rA J J<|rN<|tSR<|rM J J<|rA J J<|rN<|ATodo.ret<|?_
  obtain rfl := Option.some.inj h
  exact ImpX.here ⟨_,.cons (.tmp _ _ J) .nil,_,.cons .p0 (.cons .p0 .nil),⟨J,J⟩⟩

theorem tenant_view_path_c [GI : GTab] {b_0 : Bk} {b_0x4 : Bk} {b_0x5 : Bk} {b_0x6 : Bk} {b_0x7 : Bk} {b_0x8 : Bk} {p0x0 : Tenant_view} {p1x0 : Str} {r : (List Str)} (h : tenant_view_path p0x0 p1x0 = some r) : ACall Tryz.prog 77 [.ptr b_0 0,.str p1x0] [(b_0,.cells [.list 2 (p0x0.Org.Tenants.map Tenant.av),.list 2 (p0x0.Org.Roles.map Role.av),.list 3 (p0x0.Org.Members.map Member.av),.list 17 (p0x0.Org.Shares.map Share.av),.mref b_0x4,.mref b_0x5,.mref b_0x6,.mref b_0x7,.mref b_0x8]),(b_0x4,.mp (p0x0.parent_.map (fun e=>(AV.str e.1,AV.str e.2))))] (T1 (fun d_0=>[(b_0,.cells [.list 2 (p0x0.Org.Tenants.map Tenant.av),.list 2 (p0x0.Org.Roles.map Role.av),.list 3 (p0x0.Org.Members.map Member.av),.list 17 (p0x0.Org.Shares.map Share.av),.mref b_0x4,.mref b_0x5,.mref b_0x6,.mref b_0x7,.mref b_0x8]),(b_0x4,.mp (p0x0.parent_.map (fun e=>(AV.str e.1,AV.str e.2)))),(d_0,.arr 1 (r.map AV.str))]) (fun d_0=>.sl 1 d_0 0 r.length)) := by
  unfold tenant_view_path at h
  refine ACall.lessH ?_
  refine ACall.bodyN Tryz.func77 J Tryz.ntmps77 Tryz.results77 J J ?_
  refine tSR<|rA J J<|rN<|tSR<|rA J J<|rN<|tS<|ATodo.block<|ATodo.loopI (fun x : Str × (List Str)=>tenant_view_path_b1 p0x0 x.1 x.2) (fun x σ'=>∃ (b5 : Bk),σ' = ⟨30,[(0,.ptr b_0 0),(1,.str x.1),(5,.sl 1 b5 0 x.2.length)],[(b_0,.cells [.list 2 (p0x0.Org.Tenants.map Tenant.av),.list 2 (p0x0.Org.Roles.map Role.av),.list 3 (p0x0.Org.Members.map Member.av),.list 17 (p0x0.Org.Shares.map Share.av),.mref b_0x4,.mref b_0x5,.mref b_0x6,.mref b_0x7,.mref b_0x8]),(b_0x4,.mp (p0x0.parent_.map (fun e=>(AV.str e.1,AV.str e.2)))),(b5,.arr 1 (x.2.map AV.str))]⟩) h ?_ ?_
  · exact ImpX.arr (s := 5) 1 J fun b7=>ImpX.lq [1,1,0] ⟨b7,J⟩ J J
  · intro x z1 σ' J1 hmk h hJ1 hA1
    obtain ⟨q4, l6⟩ := x
    obtain ⟨b5, rfl⟩ := hmk
    replace h : tenant_view_path_b1 p0x0 q4 l6 = some z1 := h
    unfold tenant_view_path_b1 at h
    refine tS<|tS<|ATodo.cut (fun σ'=>∃ (c8 : Bool),tenant_view_path_j1 p0x0 q4 l6 c8 = some z1 ∧ σ' = ⟨30,[(0,.ptr b_0 0),(1,.str q4),(5,.sl 1 b5 0 l6.length),(18,.bool c8)],[(b_0,.cells [.list 2 (p0x0.Org.Tenants.map Tenant.av),.list 2 (p0x0.Org.Roles.map Role.av),.list 3 (p0x0.Org.Members.map Member.av),.list 17 (p0x0.Org.Shares.map Share.av),.mref b_0x4,.mref b_0x5,.mref b_0x6,.mref b_0x7,.mref b_0x8]),(b_0x4,.mp (p0x0.parent_.map (fun e=>(AV.str e.1,AV.str e.2)))),(b5,.arr 1 (l6.map AV.str))]⟩) ?_ ?_
    · refine tR<|rM J J<|rM J J<|bndE h fun v9 e1 h=>t_call0 J (tenant_view_is_c e1) (CoL.refl _) (.cons .p0 (.cons .p0 .nil)) J J<|rM J J<|ARun.guard J J J (fun hc=>?_) (fun hc=>?_)
      · rw [andTb hc] at h
        exact rM J J<|rY J J J<|ARun.qv (t_len_sl J) J<|rY J J J<|rM J J<|rY J J J<|ARun.qv (q_nilCheck_ptr J) J<|rY J J J<|rF J J J<|rY J J J<|rL J J .p0 J J<|rY J J J<|ARun.qv (t_len_map (gk := AV.str) (gv := AV.str) (M := p0x0.parent_) J .p1) J<|rY J J J<|ARun.qv (q_leq J J) J<|rT J J J<|rN<|ATodo.stop<|ImpX.lq [0,0,0] ⟨decide ((l6.length : Int) ≤ (p0x0.parent_.length : Int)),h,J⟩ J J
      · rw [andFb hc] at h
        exact rG J J J J<|rG J J J J<|rG J J J J<|rG J J J J<|rG J J J J<|rG J J J J<|rG J J J J<|rE J J J<|rN<|ATodo.stop<|ImpX.lq [0,0,0] ⟨false,h,J⟩ J J
    · rintro σ' ⟨c8, h, rfl⟩
      unfold tenant_view_path_j1 at h
      refine ATodo.cond J (fun hc=>?_) (fun hc=>?_)
      · refine have h := iteT hc h; tK<|ATodo.block<|tSR<|rM J J<|rM J J<|n_buildSliceL (xs := ([q4] : List Str).map AV.str) J J J J J J<|bndE h fun l10 e2 h=>t_append (g := AV.str) J J J J J J J J (.list _) e2 (fun _=>.p2) J fun b11=>rA J J<|rN<|tR<|rM J J<|ARun.qv (q_nilCheck_ptr J) J<|rF J J J<|rL J J .p0 J J<|rM J J<|bndE h fun v12 e3 h=>ARun.qv (t_lookup (gk := AV.str) (gv := AV.str) (M := p0x0.parent_) (key := q4) (Z := []) J J .p1 J J J e3 J) J<|rA J J<|rN<|ATodo.blk<|ATodo.stop<|?_
        obtain rfl := Option.some.inj h
        exact hJ1 _ _ J<|ImpX.lq [0,0,0] ⟨b11,J⟩ J J
      · refine have h := iteFb hc h; ATodo.exit J<|have h := outL h hA1; tSR<|rM J J<|rA J J<|rN<|ATodo.ret<|?_
        obtain rfl := Option.some.inj h
        exact ImpX.here ⟨_,.cons (.tmp _ _ J) .nil,_,.cons .p0 (.cons .p0 (.cons .p0 .nil)),⟨b5,J,J⟩⟩

theorem tenant_view_treeFault_c [GI : GTab] {b_0 : Bk} {b_0x4 : Bk} {b_0x5 : Bk} {b_0x6 : Bk} {b_0x7 : Bk} {b_0x8 : Bk} {p0x0 : Tenant_view} {r : Int} (h : tenant_view_treeFault p0x0 = some r) : ACall Tryz.prog 152 [.ptr b_0 0] [(b_0,.cells [.list 2 (p0x0.Org.Tenants.map Tenant.av),.list 2 (p0x0.Org.Roles.map Role.av),.list 3 (p0x0.Org.Members.map Member.av),.list 17 (p0x0.Org.Shares.map Share.av),.mref b_0x4,.mref b_0x5,.mref b_0x6,.mref b_0x7,.mref b_0x8]),(b_0x4,.mp (p0x0.parent_.map (fun e=>(AV.str e.1,AV.str e.2))))] (T0 ([(b_0,.cells [.list 2 (p0x0.Org.Tenants.map Tenant.av),.list 2 (p0x0.Org.Roles.map Role.av),.list 3 (p0x0.Org.Members.map Member.av),.list 17 (p0x0.Org.Shares.map Share.av),.mref b_0x4,.mref b_0x5,.mref b_0x6,.mref b_0x7,.mref b_0x8]),(b_0x4,.mp (p0x0.parent_.map (fun e=>(AV.str e.1,AV.str e.2))))]) (I r)) := by
  unfold tenant_view_treeFault at h
  refine ACall.lessH ?_
  refine ACall.bodyN Tryz.func152 J Tryz.ntmps152 Tryz.results152 J J ?_
  refine tSR<|rA J J<|rN<|tS<|tSR<|rM J J<|ARun.qv (q_nilCheck_ptr J) J<|rF J J J<|rF J J J<|rL J J .p0 J J<|ARun.qv (t_len J) J<|ARun.qv (q_gtr J J) J<|rN<|ATodo.cond_d J (fun hc=>?_) (fun hc=>?_)
  · refine have h := iteT hc h; tSR<|rA J J<|rN<|ATodo.ret<|?_
    obtain rfl := Option.some.inj h
    exact ImpX.here ⟨_,.cons (.tmp _ _ J) .nil,_,.cons .p0 (.cons .p0 .nil),⟨J,J⟩⟩
  · refine have h := iteF hc h; tK<|tS<|tSR<|rM J J<|ARun.qv (q_nilCheck_ptr J) J<|rF J J J<|rF J J J<|rL J J .p0 J J<|ARun.qv (t_len J) J<|rM J J<|rN<|ATodo.block<|ATodo.loopI (fun x : Int=>tenant_view_treeFault_b1 p0x0 x) (fun x σ'=>σ' = ⟨99,[(0,.ptr b_0 0),(22,.list 2 (p0x0.Org.Tenants.map Tenant.av)),(23,I (p0x0.Org.Tenants.length : Int)),(24,I x)],[(b_0,.cells [.list 2 (p0x0.Org.Tenants.map Tenant.av),.list 2 (p0x0.Org.Roles.map Role.av),.list 3 (p0x0.Org.Members.map Member.av),.list 17 (p0x0.Org.Shares.map Share.av),.mref b_0x4,.mref b_0x5,.mref b_0x6,.mref b_0x7,.mref b_0x8]),(b_0x4,.mp (p0x0.parent_.map (fun e=>(AV.str e.1,AV.str e.2))))]⟩) h ?_ ?_
    · exact ImpX.lq [0,0] J J J
    · intro n2 z1 σ' J1 hmk h hJ1 hA1
      obtain rfl := hmk
      replace h : tenant_view_treeFault_b1 p0x0 n2 = some z1 := h
      unfold tenant_view_treeFault_b1 at h
      refine tSR<|ARun.qv (q_lss J J) J<|rN<|tS<|ATodo.cond_d J (fun hc=>?_) (fun hc=>?_)
      · refine have h := iteT hc h; tK<|tS<|ATodo.block<|tSR<|rM J J<|bndE h fun v3 e1 h=>ARun.qv (t_index J J J e1 J J) J<|ARun.qv (q_load_rptr_agg J J J) J<|n_alloc J J J J fun b4=>rA J J<|n_store_ptr J J J J .p0 J J<|rN<|tS<|tSR<|rF J J J<|rL J J .p0 J J<|bndE h fun v5 e2 h=>r_callp J (base_Key_c e2) (CoL.refl _) J<|ARun.qv (q_not J) J<|rN<|ATodo.cond J (fun hc=>?_) (fun hc=>?_)
        · refine have h := iteT hc h; tSR<|rA J J<|rN<|ATodo.ret<|have h := outL h hA1; ?_
          obtain rfl := Option.some.inj h
          exact ImpX.here ⟨_,.cons (.tmp _ _ J) .nil,_,.cons .p1 (.cons .p1 .nil),⟨J,J⟩⟩
        · refine have h := iteFb hc h; tK<|tS<|ATodo.cut (fun σ'=>∃ (c6 : Bool),tenant_view_treeFault_j1 n2 c6 = some z1 ∧ σ' = ⟨99,[(0,.ptr b_0 0),(22,.list 2 (p0x0.Org.Tenants.map Tenant.av)),(23,I (p0x0.Org.Tenants.length : Int)),(24,I n2),(49,.bool c6)],[(b_0,.cells [.list 2 (p0x0.Org.Tenants.map Tenant.av),.list 2 (p0x0.Org.Roles.map Role.av),.list 3 (p0x0.Org.Members.map Member.av),.list 17 (p0x0.Org.Shares.map Share.av),.mref b_0x4,.mref b_0x5,.mref b_0x6,.mref b_0x7,.mref b_0x8]),(b_0x4,.mp (p0x0.parent_.map (fun e=>(AV.str e.1,AV.str e.2))))]⟩) ?_ ?_
          · refine ATodo.regionM (id := 8) (A := [0,1,3,7,15,7,39,103,231,487,7,1031,4071,8167,16359,32767,65535]) 17 mixed J (by kernel_rfl) (by kernel_rfl)<|AM.qv (q_move J) J<|AM.qv (q_gtr J J) J<|AM.qv (q_move J) J<|AM.guard_dt J J J (fun hc=>?_) (fun hc=>?_)
            · exact have h := iteT hc h; AM.qv (n_field_ptr J J) J<|AM.guard_yes J J J<|AM.qv (q_load_ptr J J .p0 J) J<|AM.guard_yes J J J<|AM.qv (q_move J) J<|AM.guard_yes J J J<|AM.qv (q_nilCheck_ptr J) J<|AM.guard_yes J J J<|AM.qv (n_field_ptr J J) J<|AM.guard_yes J J J<|AM.qv (n_field_ptr J J) J<|AM.guard_yes J J J<|AM.qv (q_load_ptr J J .p1 J) J<|AM.guard_yes J J J<|AM.qv (q_move J) J<|AM.guard_yes J J J<|AM.qv (q_subw J J) J<|AM.guard_yes J J J<|bndE h fun v7 e3 h=>AM.qv (t_index J J J e3 J J) J<|AM.guard_yes J J J<|AM.qv (n_field_rptr J J) J<|AM.guard_yes J J J<|AM.qv (q_load_rptr J J J) J<|AM.guard_yes J J J<|AM.qv (t_sleq J J) J<|AM.qv (q_pick_t J J) J<|AM.nil<|rN<|ATodo.stop<|ImpX.lq [1,1] ⟨Op.bytesLess v3.Key v7.Key || v3.Key == v7.Key,h,J⟩ J J
            · exact have h := iteF hc h; AM.guard_no J J J J<|AM.guard_no J J J J<|AM.guard_no J J J J<|AM.guard_no J J J J<|AM.guard_no J J J J<|AM.guard_no J J J J<|AM.guard_no J J J J<|AM.guard_no J J J J<|AM.guard_no J J J J<|AM.guard_no J J J J<|AM.guard_no J J J J<|AM.guard_no J J J J<|AM.qv (q_pick_f J J) J<|AM.nil<|rN<|ATodo.stop<|ImpX.lq [1,1] ⟨false,h,J⟩ J J
          · rintro σ' ⟨c6, h, rfl⟩
            unfold tenant_view_treeFault_j1 at h
            refine ATodo.cond J (fun hc=>?_) (fun hc=>?_)
            · refine have h := iteT hc h; tSR<|rA J J<|rN<|ATodo.ret<|have h := outL h hA1; ?_
              obtain rfl := Option.some.inj h
              exact ImpX.here ⟨_,.cons (.tmp _ _ J) .nil,_,.cons .p0 (.cons .p0 .nil),⟨J,J⟩⟩
            · refine have h := iteFb hc h; tK<|ATodo.blk<|tR<|ARun.qv (q_addw J J) J<|rM J J<|rN<|ATodo.stop<|?_
              obtain rfl := Option.some.inj h
              exact hJ1 _ _ J<|ImpX.lq [0,0] J J J
      · refine have h := iteF hc h; ATodo.exit J<|have h := outL h hA1; tS<|tSR<|rM J J<|ARun.qv (q_nilCheck_ptr J) J<|rF J J J<|rF J J J<|rL J J .p0 J J<|ARun.qv (t_len J) J<|rM J J<|rN<|ATodo.block<|ATodo.loopI (fun x : Int=>tenant_view_treeFault_b2 p0x0 x) (fun x σ'=>σ' = ⟨99,[(0,.ptr b_0 0),(55,.list 2 (p0x0.Org.Tenants.map Tenant.av)),(56,I (p0x0.Org.Tenants.length : Int)),(57,I x)],[(b_0,.cells [.list 2 (p0x0.Org.Tenants.map Tenant.av),.list 2 (p0x0.Org.Roles.map Role.av),.list 3 (p0x0.Org.Members.map Member.av),.list 17 (p0x0.Org.Shares.map Share.av),.mref b_0x4,.mref b_0x5,.mref b_0x6,.mref b_0x7,.mref b_0x8]),(b_0x4,.mp (p0x0.parent_.map (fun e=>(AV.str e.1,AV.str e.2))))]⟩) h ?_ ?_
        · exact ImpX.lq [0,0] J J J
        · intro n9 z2 σ' J2 hmk h hJ2 hA2
          obtain rfl := hmk
          replace h : tenant_view_treeFault_b2 p0x0 n9 = some z2 := h
          unfold tenant_view_treeFault_b2 at h
          refine tSR<|ARun.qv (q_lss J J) J<|rN<|tS<|ATodo.cond_d J (fun hc=>?_) (fun hc=>?_)
          · refine have h := iteT hc h; tK<|tS<|ATodo.block<|tSR<|bndE h fun v10 e4 h=>ARun.qv (t_index J J J e4 J J) J<|ARun.qv (q_load_rptr_agg J J J) J<|n_alloc J J J J fun b11=>n_store_ptr J J J J .p0 J J<|rN<|tS<|ATodo.cut (fun σ'=>∃ (c12 : Bool),tenant_view_treeFault_j2 n9 c12 = some z2 ∧ σ' = ⟨99,[(0,.ptr b_0 0),(55,.list 2 (p0x0.Org.Tenants.map Tenant.av)),(56,I (p0x0.Org.Tenants.length : Int)),(57,I n9),(70,.bool c12)],[(b_0,.cells [.list 2 (p0x0.Org.Tenants.map Tenant.av),.list 2 (p0x0.Org.Roles.map Role.av),.list 3 (p0x0.Org.Members.map Member.av),.list 17 (p0x0.Org.Shares.map Share.av),.mref b_0x4,.mref b_0x5,.mref b_0x6,.mref b_0x7,.mref b_0x8]),(b_0x4,.mp (p0x0.parent_.map (fun e=>(AV.str e.1,AV.str e.2))))]⟩) ?_ ?_
            · refine tR<|rF J J J<|rL J J .p0 J J<|ARun.qv (q_sne J J) J<|rM J J<|ARun.guard_dt J J J (fun hc=>?_) (fun hc=>?_)
              · exact have h := iteT hc h; rM J J<|rY J J J<|rF J J J<|rY J J J<|rL J J .p0 J J<|rY J J J<|bndE h fun v13 e5 h=>t_call0 J (tenant_view_is_c e5) (CoL.refl _) (.cons .p1 (.cons .p1 .nil)) J J<|rY J J J<|ARun.qv (q_not J) J<|rT J J J<|rN<|ATodo.stop<|ImpX.lq [0,0] ⟨!v13,h,J⟩ J J
              · exact have h := iteF hc h; rG J J J J<|rG J J J J<|rG J J J J<|rG J J J J<|rE J J J<|rN<|ATodo.stop<|ImpX.lq [1,1] ⟨false,h,J⟩ J J
            · rintro σ' ⟨c12, h, rfl⟩
              unfold tenant_view_treeFault_j2 at h
              refine ATodo.cond J (fun hc=>?_) (fun hc=>?_)
              · refine have h := iteT hc h; tSR<|rA J J<|rN<|ATodo.ret<|have h := outL h hA2; ?_
                obtain rfl := Option.some.inj h
                exact ImpX.here ⟨_,.cons (.tmp _ _ J) .nil,_,.cons .p0 (.cons .p0 .nil),⟨J,J⟩⟩
              · refine have h := iteFb hc h; tK<|ATodo.blk<|tR<|ARun.qv (q_addw J J) J<|rM J J<|rN<|ATodo.stop<|?_
                obtain rfl := Option.some.inj h
                exact hJ2 _ _ J<|ImpX.lq [0,0] J J J
          · refine have h := iteF hc h; ATodo.exit J<|have h := outL h hA2; tSR<|rA J J<|rN<|tS<|tSR<|rM J J<|ARun.qv (q_nilCheck_ptr J) J<|rF J J J<|rF J J J<|rL J J .p0 J J<|ARun.qv (t_len J) J<|rM J J<|rN<|ATodo.block<|ATodo.loopI (fun x : Bool × Int=>tenant_view_treeFault_b3 p0x0 x.1 x.2) (fun x σ'=>σ' = ⟨99,[(0,.ptr b_0 0),(7,.bool x.1),(76,.list 2 (p0x0.Org.Tenants.map Tenant.av)),(77,I (p0x0.Org.Tenants.length : Int)),(78,I x.2)],[(b_0,.cells [.list 2 (p0x0.Org.Tenants.map Tenant.av),.list 2 (p0x0.Org.Roles.map Role.av),.list 3 (p0x0.Org.Members.map Member.av),.list 17 (p0x0.Org.Shares.map Share.av),.mref b_0x4,.mref b_0x5,.mref b_0x6,.mref b_0x7,.mref b_0x8]),(b_0x4,.mp (p0x0.parent_.map (fun e=>(AV.str e.1,AV.str e.2))))]⟩) h ?_ ?_
            · exact ImpX.lq [0,0] J J J
            · intro x z3 σ' J3 hmk h hJ3 hA3
              obtain ⟨c16, n17⟩ := x
              obtain rfl := hmk
              replace h : tenant_view_treeFault_b3 p0x0 c16 n17 = some z3 := h
              unfold tenant_view_treeFault_b3 at h
              refine tSR<|ARun.qv (q_lss J J) J<|rN<|tS<|ATodo.cond_d J (fun hc=>?_) (fun hc=>?_)
              · refine have h := iteT hc h; tK<|tS<|ATodo.block<|tSR<|bndE h fun v18 e6 h=>ARun.qv (t_index J J J e6 J J) J<|ARun.qv (q_load_rptr_agg J J J) J<|n_alloc J J J J fun b19=>n_store_ptr J J J J .p0 J J<|rN<|tSR<|rM J J<|rF J J J<|rL J J .p0 J J<|bndE h fun v20 e7 h=>t_call1 J (tenant_view_path_c e7) (CoL.refl _) (.cons .p1 (.cons .p1 .nil)) (fun _=>J) J fun b21=>rA J J<|rN<|tS<|tS<|ATodo.regionM (id := 22) (A := [0,1,0,4,15]) 5 mixed J (by kernel_rfl) (by kernel_rfl)<|AM.qv (q_move J) J<|bndE h fun l22 e8 h=>AM.qv (t_slice_sl J J (.some _ _ _ J) .none J J e8) J<|AM.qv (n_field_ptr J J) J<|AM.qv (q_load_ptr J J .p3 J) J<|bndE h fun v23 e9 h=>AM.callpB J (slices_Contains_string_string_c e9) (.cons (CoB.partT e8 .p2) (.cons (.co (.refl _)) .nil)) J J<|AM.nil<|rN<|ATodo.cond J (fun hc=>?_) (fun hc=>?_)
                · refine have h := iteT hc h; tSR<|rA J J<|rN<|ATodo.ret<|have h := outL h hA3; ?_
                  obtain rfl := Option.some.inj h
                  exact ImpX.here ⟨_,.cons (.tmp _ _ J) .nil,_,.cons .p0 (.cons .p0 .nil),⟨J,J⟩⟩
                · refine have h := iteFb hc h; tK<|ATodo.cut (fun σ'=>∃ (c24 : Bool),tenant_view_treeFault_j3 n17 c24 = some z3 ∧ σ' = ⟨99,[(0,.ptr b_0 0),(7,.bool c24),(76,.list 2 (p0x0.Org.Tenants.map Tenant.av)),(77,I (p0x0.Org.Tenants.length : Int)),(78,I n17)],[(b_0,.cells [.list 2 (p0x0.Org.Tenants.map Tenant.av),.list 2 (p0x0.Org.Roles.map Role.av),.list 3 (p0x0.Org.Members.map Member.av),.list 17 (p0x0.Org.Shares.map Share.av),.mref b_0x4,.mref b_0x5,.mref b_0x6,.mref b_0x7,.mref b_0x8]),(b_0x4,.mp (p0x0.parent_.map (fun e=>(AV.str e.1,AV.str e.2))))]⟩) ?_ ?_
                  · refine tR<|rM J J<|rM J J<|ARun.guard J J J (fun hc=>?_) (fun hc=>?_)
                    · rw [orFb hc] at h
                      exact rM J J<|rY J J J<|ARun.qv (t_len_sl J) J<|rY J J J<|ARun.qv (q_gtr J J) J<|rE J J J<|rA J J<|rN<|ATodo.stop<|ImpX.lq [0,0] ⟨decide ((11 : Int) < (v20.length : Int)),h,J⟩ J J
                    · rw [orTb hc] at h
                      exact rG J J J J<|rG J J J J<|rT J J J<|rA J J<|rN<|ATodo.stop<|ImpX.lq [0,0] ⟨true,h,J⟩ J J
                  · rintro σ' ⟨c24, h, rfl⟩
                    unfold tenant_view_treeFault_j3 at h
                    refine ATodo.blk<|tR<|ARun.qv (q_addw J J) J<|rM J J<|rN<|ATodo.stop<|?_
                    obtain rfl := Option.some.inj h
                    exact hJ3 _ _ J<|ImpX.lq [0,0] J J J
              · refine have h := iteF hc h; ATodo.exit J<|have h := outL h hA3; ?_
                unfold tenant_view_treeFault_k4 at h
                refine tS<|tSR<|rM J J<|rN<|ATodo.cond J (fun hc=>?_) (fun hc=>?_)
                · refine have h := iteT hc h; tSR<|rA J J<|rN<|ATodo.ret<|?_
                  obtain rfl := Option.some.inj h
                  exact ImpX.here ⟨_,.cons (.tmp _ _ J) .nil,_,.cons .p0 (.cons .p0 .nil),⟨J,J⟩⟩
                · refine have h := iteFb hc h; tK<|tSR<|rA J J<|rN<|ATodo.ret<|?_
                  obtain rfl := Option.some.inj h
                  exact ImpX.here ⟨_,.cons (.tmp _ _ J) .nil,_,.cons .p0 (.cons .p0 .nil),⟨J,J⟩⟩

theorem tenant_actsFault_c {p0x0 : List Str} {r : Int} (h : tenant_actsFault p0x0 = some r) : Pu Tryz.prog 206 [.list 1 (p0x0.map AV.str)] (I r) := by
  unfold tenant_actsFault at h
  refine ACall.bodyN Tryz.func206 J Tryz.ntmps206 Tryz.results206 J J ?_
  refine tSR<|rA J J<|rN<|tS<|ATodo.block<|tSR<|rM J J<|ARun.qv (t_len J) J<|ARun.qv (q_eql J J) J<|rA J J<|rN<|ATodo.cond_d J (fun hc=>?_) (fun hc=>?_)
  · refine have h := iteT hc h; tSR<|rA J J<|rN<|ATodo.ret<|?_
    obtain rfl := Option.some.inj h
    exact ImpX.here ⟨_,.cons (.tmp _ _ J) .nil,J⟩
  · refine have h := iteF hc h; tSR<|rM J J<|ARun.qv (t_len J) J<|ARun.qv (q_gtr J J) J<|rA J J<|rN<|ATodo.cond_d J (fun hc=>?_) (fun hc=>?_)
    · refine have h := iteT hc h; tSR<|rA J J<|rN<|ATodo.ret<|?_
      obtain rfl := Option.some.inj h
      exact ImpX.here ⟨_,.cons (.tmp _ _ J) .nil,J⟩
    · refine have h := iteF hc h; tK<|ATodo.blk<|tS<|tSR<|rM J J<|ARun.qv (t_len J) J<|rM J J<|rN<|ATodo.block<|ATodo.loopI (fun x : Int=>tenant_actsFault_b1 p0x0 x) (fun x σ'=>σ' = ⟨35,[(0,.list 1 (p0x0.map AV.str)),(13,.list 1 (p0x0.map AV.str)),(14,I (p0x0.length : Int)),(15,I x)],[]⟩) h ?_ ?_
      · exact ImpX.lq [] J J J
      · intro n2 z1 σ' J1 hmk h hJ1 hA1
        obtain rfl := hmk
        replace h : tenant_actsFault_b1 p0x0 n2 = some z1 := h
        unfold tenant_actsFault_b1 at h
        refine tSR<|ARun.qv (q_lss J J) J<|rN<|tS<|ATodo.cond_d J (fun hc=>?_) (fun hc=>?_)
        · refine have h := iteT hc h; tK<|tS<|ATodo.block<|tSR<|rM J J<|bndE h fun v3 e1 h=>ARun.qv (t_index J J J e1 J J) J<|ARun.qv (q_load_rptr J J J) J<|rA J J<|rA J J<|rN<|tS<|tSR<|rM J J<|bndE h fun v4 e2 h=>r_callp J (tenant_isAct_c e2) (CoL.refl _) J<|ARun.qv (q_not J) J<|rN<|ATodo.cond J (fun hc=>?_) (fun hc=>?_)
          · refine have h := iteT hc h; tSR<|rA J J<|rN<|ATodo.ret<|have h := outL h hA1; ?_
            obtain rfl := Option.some.inj h
            exact ImpX.here ⟨_,.cons (.tmp _ _ J) .nil,J⟩
          · refine have h := iteFb hc h; tK<|tS<|ATodo.cut (fun σ'=>∃ (c5 : Bool),tenant_actsFault_j1 n2 c5 = some z1 ∧ σ' = ⟨35,[(0,.list 1 (p0x0.map AV.str)),(13,.list 1 (p0x0.map AV.str)),(14,I (p0x0.length : Int)),(15,I n2),(33,.bool c5)],[]⟩) ?_ ?_
            · refine tR<|rM J J<|ARun.qv (q_gtr J J) J<|rM J J<|ARun.guard_dt J J J (fun hc=>?_) (fun hc=>?_)
              · exact have h := iteT hc h; rM J J<|rY J J J<|rM J J<|rY J J J<|rM J J<|rY J J J<|ARun.qv (q_subw J J) J<|rY J J J<|bndE h fun v6 e3 h=>ARun.qv (t_index J J J e3 J J) J<|rY J J J<|ARun.qv (q_load_rptr J J J) J<|rY J J J<|ARun.qv (t_sleq J J) J<|rT J J J<|rN<|ATodo.stop<|ImpX.lq [] ⟨Op.bytesLess v3 v6 || v3 == v6,h,J⟩ J J
              · exact have h := iteF hc h; rG J J J J<|rG J J J J<|rG J J J J<|rG J J J J<|rG J J J J<|rG J J J J<|rE J J J<|rN<|ATodo.stop<|ImpX.lq [] ⟨false,h,J⟩ J J
            · rintro σ' ⟨c5, h, rfl⟩
              unfold tenant_actsFault_j1 at h
              refine ATodo.cond J (fun hc=>?_) (fun hc=>?_)
              · refine have h := iteT hc h; tSR<|rA J J<|rN<|ATodo.ret<|have h := outL h hA1; ?_
                obtain rfl := Option.some.inj h
                exact ImpX.here ⟨_,.cons (.tmp _ _ J) .nil,J⟩
              · refine have h := iteFb hc h; tK<|ATodo.blk<|tR<|ARun.qv (q_addw J J) J<|rM J J<|rN<|ATodo.stop<|?_
                obtain rfl := Option.some.inj h
                exact hJ1 _ _ J<|ImpX.lq [] J J J
        · refine have h := iteF hc h; ATodo.exit J<|have h := outL h hA1; tSR<|rA J J<|rN<|ATodo.ret<|?_
          obtain rfl := Option.some.inj h
          exact ImpX.here ⟨_,.cons (.tmp _ _ J) .nil,J⟩

theorem tenant_view_rolesFault_c {b_0 : Bk} {b_0x4 : Bk} {b_0x5 : Bk} {b_0x6 : Bk} {b_0x7 : Bk} {b_0x8 : Bk} {p0x0 : Tenant_view} {r : Int} (h : tenant_view_rolesFault p0x0 = some r) : ACall Tryz.prog 153 [.ptr b_0 0] [(b_0,.cells [.list 2 (p0x0.Org.Tenants.map Tenant.av),.list 2 (p0x0.Org.Roles.map Role.av),.list 3 (p0x0.Org.Members.map Member.av),.list 17 (p0x0.Org.Shares.map Share.av),.mref b_0x4,.mref b_0x5,.mref b_0x6,.mref b_0x7,.mref b_0x8])] (T0 ([(b_0,.cells [.list 2 (p0x0.Org.Tenants.map Tenant.av),.list 2 (p0x0.Org.Roles.map Role.av),.list 3 (p0x0.Org.Members.map Member.av),.list 17 (p0x0.Org.Shares.map Share.av),.mref b_0x4,.mref b_0x5,.mref b_0x6,.mref b_0x7,.mref b_0x8])]) (I r)) := by
  unfold tenant_view_rolesFault at h
  refine ACall.lessH ?_
  refine ACall.bodyN Tryz.func153 J Tryz.ntmps153 Tryz.results153 J J ?_
  refine tSR<|rA J J<|rN<|tS<|tSR<|rM J J<|ARun.qv (q_nilCheck_ptr J) J<|rF J J J<|rF J J J<|rL J J .p0 J J<|ARun.qv (t_len J) J<|ARun.qv (q_gtr J J) J<|rN<|ATodo.cond_d J (fun hc=>?_) (fun hc=>?_)
  · refine have h := iteT hc h; tSR<|rA J J<|rN<|ATodo.ret<|?_
    obtain rfl := Option.some.inj h
    exact ImpX.here ⟨_,.cons (.tmp _ _ J) .nil,_,.cons .p0 .nil,⟨J,J⟩⟩
  · refine have h := iteF hc h; tK<|tS<|tSR<|rM J J<|ARun.qv (q_nilCheck_ptr J) J<|rF J J J<|rF J J J<|rL J J .p0 J J<|ARun.qv (t_len J) J<|rM J J<|rN<|ATodo.block<|ATodo.loopI (fun x : Int=>tenant_view_rolesFault_b1 p0x0 x) (fun x σ'=>σ' = ⟨52,[(0,.ptr b_0 0),(17,.list 2 (p0x0.Org.Roles.map Role.av)),(18,I (p0x0.Org.Roles.length : Int)),(19,I x)],[(b_0,.cells [.list 2 (p0x0.Org.Tenants.map Tenant.av),.list 2 (p0x0.Org.Roles.map Role.av),.list 3 (p0x0.Org.Members.map Member.av),.list 17 (p0x0.Org.Shares.map Share.av),.mref b_0x4,.mref b_0x5,.mref b_0x6,.mref b_0x7,.mref b_0x8])]⟩) h ?_ ?_
    · exact ImpX.lq [0] J J J
    · intro n2 z1 σ' J1 hmk h hJ1 hA1
      obtain rfl := hmk
      replace h : tenant_view_rolesFault_b1 p0x0 n2 = some z1 := h
      unfold tenant_view_rolesFault_b1 at h
      refine tSR<|ARun.qv (q_lss J J) J<|rN<|tS<|ATodo.cond_d J (fun hc=>?_) (fun hc=>?_)
      · refine have h := iteT hc h; tK<|tS<|ATodo.block<|tSR<|rM J J<|bndE h fun v3 e1 h=>ARun.qv (t_index J J J e1 J J) J<|ARun.qv (q_load_rptr_agg J J J) J<|n_alloc J J J J fun b4=>rA J J<|n_store_ptr J J J J .p0 J J<|rN<|tS<|tSR<|rF J J J<|rL J J .p0 J J<|bndE h fun v5 e2 h=>r_callp J (base_Key_c e2) (CoL.refl _) J<|ARun.qv (q_not J) J<|rN<|ATodo.cond J (fun hc=>?_) (fun hc=>?_)
        · refine have h := iteT hc h; tSR<|rA J J<|rN<|ATodo.ret<|have h := outL h hA1; ?_
          obtain rfl := Option.some.inj h
          exact ImpX.here ⟨_,.cons (.tmp _ _ J) .nil,_,.cons .p1 .nil,⟨J,J⟩⟩
        · refine have h := iteFb hc h; tK<|tS<|tS<|ATodo.cut (fun σ'=>∃ (c6 : Bool),tenant_view_rolesFault_j1 n2 v3 c6 = some z1 ∧ σ' = ⟨52,[(0,.ptr b_0 0),(4,.ptr b4 0),(17,.list 2 (p0x0.Org.Roles.map Role.av)),(18,I (p0x0.Org.Roles.length : Int)),(19,I n2),(44,.bool c6)],[(b_0,.cells [.list 2 (p0x0.Org.Tenants.map Tenant.av),.list 2 (p0x0.Org.Roles.map Role.av),.list 3 (p0x0.Org.Members.map Member.av),.list 17 (p0x0.Org.Shares.map Share.av),.mref b_0x4,.mref b_0x5,.mref b_0x6,.mref b_0x7,.mref b_0x8]),(b4,.cells [.str v3.Key,.list 1 (v3.Acts.map AV.str)])]⟩) ?_ ?_
          · refine ATodo.regionM (id := 8) (A := [0,1,3,7,15,7,39,103,231,487,7,1031,4071,8167,16359,32767,65535]) 17 mixed J (by kernel_rfl) (by kernel_rfl)<|AM.qv (q_move J) J<|AM.qv (q_gtr J J) J<|AM.qv (q_move J) J<|AM.guard_dt J J J (fun hc=>?_) (fun hc=>?_)
            · exact have h := iteT hc h; AM.qv (n_field_ptr J J) J<|AM.guard_yes J J J<|AM.qv (q_load_ptr J J .p0 J) J<|AM.guard_yes J J J<|AM.qv (q_move J) J<|AM.guard_yes J J J<|AM.qv (q_nilCheck_ptr J) J<|AM.guard_yes J J J<|AM.qv (n_field_ptr J J) J<|AM.guard_yes J J J<|AM.qv (n_field_ptr J J) J<|AM.guard_yes J J J<|AM.qv (q_load_ptr J J .p1 J) J<|AM.guard_yes J J J<|AM.qv (q_move J) J<|AM.guard_yes J J J<|AM.qv (q_subw J J) J<|AM.guard_yes J J J<|bndE h fun v7 e3 h=>AM.qv (t_index J J J e3 J J) J<|AM.guard_yes J J J<|AM.qv (n_field_rptr J J) J<|AM.guard_yes J J J<|AM.qv (q_load_rptr J J J) J<|AM.guard_yes J J J<|AM.qv (t_sleq J J) J<|AM.qv (q_pick_t J J) J<|AM.nil<|rN<|ATodo.stop<|ImpX.lq [1,0] ⟨Op.bytesLess v3.Key v7.Key || v3.Key == v7.Key,h,J⟩ J J
            · exact have h := iteF hc h; AM.guard_no J J J J<|AM.guard_no J J J J<|AM.guard_no J J J J<|AM.guard_no J J J J<|AM.guard_no J J J J<|AM.guard_no J J J J<|AM.guard_no J J J J<|AM.guard_no J J J J<|AM.guard_no J J J J<|AM.guard_no J J J J<|AM.guard_no J J J J<|AM.guard_no J J J J<|AM.qv (q_pick_f J J) J<|AM.nil<|rN<|ATodo.stop<|ImpX.lq [1,0] ⟨false,h,J⟩ J J
          · rintro σ' ⟨c6, h, rfl⟩
            unfold tenant_view_rolesFault_j1 at h
            refine ATodo.cond J (fun hc=>?_) (fun hc=>?_)
            · refine have h := iteT hc h; tSR<|rA J J<|rN<|ATodo.ret<|have h := outL h hA1; ?_
              obtain rfl := Option.some.inj h
              exact ImpX.here ⟨_,.cons (.tmp _ _ J) .nil,_,.cons .p0 .nil,⟨J,J⟩⟩
            · refine have h := iteFb hc h; tK<|tSR<|rF J J J<|rL J J .p1 J J<|bndE h fun v8 e4 h=>r_callp J (tenant_actsFault_c e4) (CoL.refl _) J<|rA J J<|rN<|tSR<|rM J J<|ARun.qv (q_neq J J) J<|rN<|ATodo.cond_d J (fun hc=>?_) (fun hc=>?_)
              · refine have h := iteT hc h; tSR<|rM J J<|rA J J<|rN<|ATodo.ret<|have h := outL h hA1; ?_
                obtain rfl := Option.some.inj h
                exact ImpX.here ⟨_,.cons (.tmp _ _ J) .nil,_,.cons .p0 .nil,⟨J,J⟩⟩
              · refine have h := iteF hc h; tK<|ATodo.blk<|tR<|ARun.qv (q_addw J J) J<|rM J J<|rN<|ATodo.stop<|?_
                obtain rfl := Option.some.inj h
                exact hJ1 _ _ J<|ImpX.lq [0] J J J
      · refine have h := iteF hc h; ATodo.exit J<|have h := outL h hA1; tSR<|rA J J<|rN<|ATodo.ret<|?_
        obtain rfl := Option.some.inj h
        exact ImpX.here ⟨_,.cons (.tmp _ _ J) .nil,_,.cons .p0 .nil,⟨J,J⟩⟩

theorem tenant_byMember_c [GI : GTab] {p0x0 : Member} {p1x0 : Member} {r : Int} (h : tenant_byMember p0x0 p1x0 = some r) : Pu Tryz.prog 207 [.agg [.str p0x0.User,.str p0x0.Tenant,.str p0x0.Role],.agg [.str p1x0.User,.str p1x0.Tenant,.str p1x0.Role]] (I r) := by
  unfold tenant_byMember at h
  refine ACall.bodyN Tryz.func207 J Tryz.ntmps207 Tryz.results207 J J ?_
  refine tSR<|n_box J J J J fun b1=>n_box J J J J fun b2=>rA J J<|rN<|tS<|ATodo.regionM (id := 1) (A := [0,1,0,4,15,0,32,0,128,511,0,1024,0,4096,16383,32767,65535,131071]) 18 mixed J (by kernel_rfl) (by kernel_rfl)<|AM.qv (n_field_ptr J J) J<|AM.qv (q_load_ptr J J .p1 J) J<|AM.qv (n_field_ptr J J) J<|AM.qv (q_load_ptr J J .p0 J) J<|AM.callp J (strings_Compare_c J) (CoL.refl _) J<|AM.qv (n_field_ptr J J) J<|AM.qv (q_load_ptr J J .p1 J) J<|AM.qv (n_field_ptr J J) J<|AM.qv (q_load_ptr J J .p0 J) J<|AM.callp J (strings_Compare_c J) (CoL.refl _) J<|AM.qv (n_field_ptr J J) J<|AM.qv (q_load_ptr J J .p1 J) J<|AM.qv (n_field_ptr J J) J<|AM.qv (q_load_ptr J J .p0 J) J<|AM.callp J (strings_Compare_c J) (CoL.refl _) J<|AM.buildSliceL (xs := ([(Lib.compareBytes p0x0.User p1x0.User),(Lib.compareBytes p0x0.Tenant p1x0.Tenant),(Lib.compareBytes p0x0.Role p1x0.Role)] : List Int).map I) J J J J J J<|bndE h fun v3 e1 h=>AM.callp J (cmp_Or_int_c e1) (CoL.refl _) J<|AM.qv (q_assign J) J<|AM.nil<|rN<|ATodo.ret<|?_
  obtain rfl := Option.some.inj h
  exact ImpX.here ⟨_,.cons (.tmp _ _ J) .nil,J⟩

theorem tenant_view_membersFault_c [GI : GTab] {b_0 : Bk} {b_0x4 : Bk} {b_0x5 : Bk} {b_0x6 : Bk} {b_0x7 : Bk} {b_0x8 : Bk} {p0x0 : Tenant_view} {r : Int} (h : tenant_view_membersFault p0x0 = some r) : ACall Tryz.prog 154 [.ptr b_0 0] [(b_0,.cells [.list 2 (p0x0.Org.Tenants.map Tenant.av),.list 2 (p0x0.Org.Roles.map Role.av),.list 3 (p0x0.Org.Members.map Member.av),.list 17 (p0x0.Org.Shares.map Share.av),.mref b_0x4,.mref b_0x5,.mref b_0x6,.mref b_0x7,.mref b_0x8]),(b_0x4,.mp (p0x0.parent_.map (fun e=>(AV.str e.1,AV.str e.2)))),(b_0x5,.mp (p0x0.acts_.map (fun e=>(AV.str e.1,(encL 1 AV.str) e.2))))] (T0 ([(b_0,.cells [.list 2 (p0x0.Org.Tenants.map Tenant.av),.list 2 (p0x0.Org.Roles.map Role.av),.list 3 (p0x0.Org.Members.map Member.av),.list 17 (p0x0.Org.Shares.map Share.av),.mref b_0x4,.mref b_0x5,.mref b_0x6,.mref b_0x7,.mref b_0x8]),(b_0x4,.mp (p0x0.parent_.map (fun e=>(AV.str e.1,AV.str e.2)))),(b_0x5,.mp (p0x0.acts_.map (fun e=>(AV.str e.1,(encL 1 AV.str) e.2))))]) (I r)) := by
  unfold tenant_view_membersFault at h
  refine ACall.lessH ?_
  refine ACall.bodyN Tryz.func154 J Tryz.ntmps154 Tryz.results154 J J ?_
  refine tSR<|rA J J<|rN<|tS<|tSR<|rM J J<|ARun.qv (q_nilCheck_ptr J) J<|rF J J J<|rF J J J<|rL J J .p0 J J<|ARun.qv (t_len J) J<|ARun.qv (q_gtr J J) J<|rN<|ATodo.cond_d J (fun hc=>?_) (fun hc=>?_)
  · refine have h := iteT hc h; tSR<|rA J J<|rN<|ATodo.ret<|?_
    obtain rfl := Option.some.inj h
    exact ImpX.here ⟨_,.cons (.tmp _ _ J) .nil,_,.cons .p0 (.cons .p0 (.cons .p0 .nil)),⟨J,J⟩⟩
  · refine have h := iteF hc h; tK<|tS<|tSR<|rM J J<|ARun.qv (q_nilCheck_ptr J) J<|rF J J J<|rF J J J<|rL J J .p0 J J<|ARun.qv (t_len J) J<|rM J J<|rN<|ATodo.block<|ATodo.loopI (fun x : Int=>tenant_view_membersFault_b1 p0x0 x) (fun x σ'=>σ' = ⟨68,[(0,.ptr b_0 0),(18,.list 3 (p0x0.Org.Members.map Member.av)),(19,I (p0x0.Org.Members.length : Int)),(20,I x)],[(b_0,.cells [.list 2 (p0x0.Org.Tenants.map Tenant.av),.list 2 (p0x0.Org.Roles.map Role.av),.list 3 (p0x0.Org.Members.map Member.av),.list 17 (p0x0.Org.Shares.map Share.av),.mref b_0x4,.mref b_0x5,.mref b_0x6,.mref b_0x7,.mref b_0x8]),(b_0x4,.mp (p0x0.parent_.map (fun e=>(AV.str e.1,AV.str e.2)))),(b_0x5,.mp (p0x0.acts_.map (fun e=>(AV.str e.1,(encL 1 AV.str) e.2))))]⟩) h ?_ ?_
    · exact ImpX.lq [0,0,0] J J J
    · intro n2 z1 σ' J1 hmk h hJ1 hA1
      obtain rfl := hmk
      replace h : tenant_view_membersFault_b1 p0x0 n2 = some z1 := h
      unfold tenant_view_membersFault_b1 at h
      refine tSR<|ARun.qv (q_lss J J) J<|rN<|tS<|ATodo.cond_d J (fun hc=>?_) (fun hc=>?_)
      · refine have h := iteT hc h; tK<|tS<|ATodo.block<|tSR<|rM J J<|bndE h fun v3 e1 h=>ARun.qv (t_index J J J e1 J J) J<|ARun.qv (q_load_rptr_agg J J J) J<|n_alloc J J J J fun b4=>rA J J<|n_store_ptr J J J J .p0 J J<|rN<|tS<|ATodo.regionM (id := 6) (A := [0,1,3,7,0,16,63,127,255,255,511,2047]) 12 mixed J (by kernel_rfl) (by kernel_rfl)<|AM.qv (q_move J) J<|AM.qv (q_nilCheck_ptr J) J<|AM.qv (n_field_ptr J J) J<|AM.qv (q_load_ptr J J .p1 J) J<|AM.qv (n_field_ptr J J) J<|AM.qv (q_load_ptr J J .p0 J) J<|bndE h fun v5 e2 h=>AM.qv (t_lookup2N (gk := AV.str) (gv := (encL 1 AV.str)) (M := p0x0.acts_) (key := v3.Role) (Z := []) J J .p3 J J e2 J) J<|AM.qv (q_move J) J<|AM.qv (q_extract J J) J<|AM.qv (q_extract J J) J<|AM.qv (q_assign J) J<|AM.qv (q_assign J) J<|AM.nil<|rN<|ATodo.block<|tSR<|rF J J J<|rL J J .p0 J J<|bndE h fun v6 e3 h=>r_callp J (base_Key_c e3) (CoL.refl _) J<|ARun.qv (q_not J) J<|rA J J<|rN<|ATodo.cond J (fun hc=>?_) (fun hc=>?_)
        · refine have h := iteT hc h; tSR<|rA J J<|rN<|ATodo.ret<|have h := outL h hA1; ?_
          obtain rfl := Option.some.inj h
          exact ImpX.here ⟨_,.cons (.tmp _ _ J) .nil,_,.cons .p1 (.cons .p1 (.cons .p1 .nil)),⟨J,J⟩⟩
        · refine have h := iteFb hc h; tS<|ATodo.cut (fun σ'=>∃ (c7 : Bool),tenant_view_membersFault_j1 p0x0 n2 v3 c7 = some z1 ∧ σ' = ⟨68,[(0,.ptr b_0 0),(3,I n2),(4,.ptr b4 0),(18,.list 3 (p0x0.Org.Members.map Member.av)),(19,I (p0x0.Org.Members.length : Int)),(20,I n2),(40,.bool c7)],[(b_0,.cells [.list 2 (p0x0.Org.Tenants.map Tenant.av),.list 2 (p0x0.Org.Roles.map Role.av),.list 3 (p0x0.Org.Members.map Member.av),.list 17 (p0x0.Org.Shares.map Share.av),.mref b_0x4,.mref b_0x5,.mref b_0x6,.mref b_0x7,.mref b_0x8]),(b_0x4,.mp (p0x0.parent_.map (fun e=>(AV.str e.1,AV.str e.2)))),(b_0x5,.mp (p0x0.acts_.map (fun e=>(AV.str e.1,(encL 1 AV.str) e.2)))),(b4,.cells [.str v3.User,.str v3.Tenant,.str v3.Role])]⟩) ?_ ?_
          · refine tR<|rM J J<|rF J J J<|rL J J .p0 J J<|bndE h fun v8 e4 h=>t_call0 J (tenant_view_is_c e4) (CoL.refl _) (.cons .p1 (.cons .p1 .nil)) J J<|ARun.qv (q_not J) J<|rM J J<|ARun.guard J J J (fun hc=>?_) (fun hc=>?_)
            · rw [orFb hc] at h
              exact rM J J<|rY J J J<|ARun.qv (q_not J) J<|rE J J J<|rA J J<|rN<|ATodo.stop<|ImpX.lq [0,0,1,0] ⟨!v5.2,h,J⟩ J J
            · rw [orTb hc] at h
              exact rG J J J J<|rT J J J<|rA J J<|rN<|ATodo.stop<|ImpX.lq [0,0,1,0] ⟨true,h,J⟩ J J
          · rintro σ' ⟨c7, h, rfl⟩
            unfold tenant_view_membersFault_j1 at h
            refine ATodo.cond J (fun hc=>?_) (fun hc=>?_)
            · refine have h := iteT hc h; tSR<|rA J J<|rN<|ATodo.ret<|have h := outL h hA1; ?_
              obtain rfl := Option.some.inj h
              exact ImpX.here ⟨_,.cons (.tmp _ _ J) .nil,_,.cons .p0 (.cons .p0 (.cons .p0 .nil)),⟨J,J⟩⟩
            · refine have h := iteFb hc h; tS<|ATodo.cut (fun σ'=>∃ (c9 : Bool),tenant_view_membersFault_j2 n2 c9 = some z1 ∧ σ' = ⟨68,[(0,.ptr b_0 0),(18,.list 3 (p0x0.Org.Members.map Member.av)),(19,I (p0x0.Org.Members.length : Int)),(20,I n2),(50,.bool c9)],[(b_0,.cells [.list 2 (p0x0.Org.Tenants.map Tenant.av),.list 2 (p0x0.Org.Roles.map Role.av),.list 3 (p0x0.Org.Members.map Member.av),.list 17 (p0x0.Org.Shares.map Share.av),.mref b_0x4,.mref b_0x5,.mref b_0x6,.mref b_0x7,.mref b_0x8]),(b_0x4,.mp (p0x0.parent_.map (fun e=>(AV.str e.1,AV.str e.2)))),(b_0x5,.mp (p0x0.acts_.map (fun e=>(AV.str e.1,(encL 1 AV.str) e.2))))]⟩) ?_ ?_
              · refine ATodo.regionM (id := 11) (A := [0,1,3,7,7,23,55,119,247,7,519,2039,4087,8191,16383,32767,65535]) 17 mixed J (by kernel_rfl) (by kernel_rfl)<|AM.qv (q_move J) J<|AM.qv (q_gtr J J) J<|AM.qv (q_move J) J<|AM.guard_dt J J J (fun hc=>?_) (fun hc=>?_)
                · exact have h := iteT hc h; AM.qv (q_load_ptr_all J J .p3 J) J<|AM.guard_yes J J J<|AM.qv (q_move J) J<|AM.guard_yes J J J<|AM.qv (q_nilCheck_ptr J) J<|AM.guard_yes J J J<|AM.qv (n_field_ptr J J) J<|AM.guard_yes J J J<|AM.qv (n_field_ptr J J) J<|AM.guard_yes J J J<|AM.qv (q_load_ptr J J .p0 J) J<|AM.guard_yes J J J<|AM.qv (q_move J) J<|AM.guard_yes J J J<|AM.qv (q_subw J J) J<|AM.guard_yes J J J<|bndE h fun v10 e5 h=>AM.qv (t_index J J J e5 J J) J<|AM.guard_yes J J J<|AM.qv (q_load_rptr_agg J J J) J<|AM.guard_yes J J J<|bndE h fun v11 e6 h=>AM.callp J (tenant_byMember_c e6) (CoL.refl _) J<|AM.guard_yes J J J<|AM.qv (q_leq J J) J<|AM.qv (q_pick_t J J) J<|AM.qv (q_assign J) J<|AM.nil<|rN<|ATodo.stop<|ImpX.lq [0,0,0] ⟨decide (v11 ≤ (0 : Int)),h,J⟩ J J
                · exact have h := iteF hc h; AM.guard_no J J J J<|AM.guard_no J J J J<|AM.guard_no J J J J<|AM.guard_no J J J J<|AM.guard_no J J J J<|AM.guard_no J J J J<|AM.guard_no J J J J<|AM.guard_no J J J J<|AM.guard_no J J J J<|AM.guard_no J J J J<|AM.guard_no J J J J<|AM.qv (q_pick_f J J) J<|AM.qv (q_assign J) J<|AM.nil<|rN<|ATodo.stop<|ImpX.lq [0,0,0] ⟨false,h,J⟩ J J
              · rintro σ' ⟨c9, h, rfl⟩
                unfold tenant_view_membersFault_j2 at h
                refine ATodo.cond J (fun hc=>?_) (fun hc=>?_)
                · refine have h := iteT hc h; tSR<|rA J J<|rN<|ATodo.ret<|have h := outL h hA1; ?_
                  obtain rfl := Option.some.inj h
                  exact ImpX.here ⟨_,.cons (.tmp _ _ J) .nil,_,.cons .p0 (.cons .p0 (.cons .p0 .nil)),⟨J,J⟩⟩
                · refine have h := iteFb hc h; tK<|ATodo.blk<|ATodo.blk<|tR<|ARun.qv (q_addw J J) J<|rM J J<|rN<|ATodo.stop<|?_
                  obtain rfl := Option.some.inj h
                  exact hJ1 _ _ J<|ImpX.lq [0,0,0] J J J
      · refine have h := iteF hc h; ATodo.exit J<|have h := outL h hA1; tSR<|rA J J<|rN<|ATodo.ret<|?_
        obtain rfl := Option.some.inj h
        exact ImpX.here ⟨_,.cons (.tmp _ _ J) .nil,_,.cons .p0 (.cons .p0 (.cons .p0 .nil)),⟨J,J⟩⟩

theorem tenant_view_belongs_c [GI : GTab] {b_0 : Bk} {b_0x4 : Bk} {b_0x5 : Bk} {b_0x6 : Bk} {b_0x7 : Bk} {b_0x8 : Bk} {p0x0 : Tenant_view} {p1x0 : Str} {p2x0 : Str} {r : Bool} (h : tenant_view_belongs p0x0 p1x0 p2x0 = some r) : ACall Tryz.prog 82 [.ptr b_0 0,.str p1x0,.str p2x0] [(b_0,.cells [.list 2 (p0x0.Org.Tenants.map Tenant.av),.list 2 (p0x0.Org.Roles.map Role.av),.list 3 (p0x0.Org.Members.map Member.av),.list 17 (p0x0.Org.Shares.map Share.av),.mref b_0x4,.mref b_0x5,.mref b_0x6,.mref b_0x7,.mref b_0x8]),(b_0x4,.mp (p0x0.parent_.map (fun e=>(AV.str e.1,AV.str e.2))))] (T0 ([(b_0,.cells [.list 2 (p0x0.Org.Tenants.map Tenant.av),.list 2 (p0x0.Org.Roles.map Role.av),.list 3 (p0x0.Org.Members.map Member.av),.list 17 (p0x0.Org.Shares.map Share.av),.mref b_0x4,.mref b_0x5,.mref b_0x6,.mref b_0x7,.mref b_0x8]),(b_0x4,.mp (p0x0.parent_.map (fun e=>(AV.str e.1,AV.str e.2))))]) (.bool r)) := by
  unfold tenant_view_belongs at h
  refine ACall.lessH ?_
  refine ACall.bodyN Tryz.func82 J Tryz.ntmps82 Tryz.results82 J J ?_
  refine tSR<|rA J J<|rN<|tS<|ATodo.cut (fun σ'=>∃ (c1 : Bool),tenant_view_belongs_j1 c1 = some r ∧ σ' = ⟨17,[(6,.bool c1)],[(b_0,.cells [.list 2 (p0x0.Org.Tenants.map Tenant.av),.list 2 (p0x0.Org.Roles.map Role.av),.list 3 (p0x0.Org.Members.map Member.av),.list 17 (p0x0.Org.Shares.map Share.av),.mref b_0x4,.mref b_0x5,.mref b_0x6,.mref b_0x7,.mref b_0x8]),(b_0x4,.mp (p0x0.parent_.map (fun e=>(AV.str e.1,AV.str e.2))))]⟩) ?_ ?_
  · refine tR<|rM J J<|rM J J<|ARun.qv (q_sne J J) J<|rM J J<|ARun.guard_dt J J J (fun hc=>?_) (fun hc=>?_)
    · exact have h := iteT hc h; rM J J<|rY J J J<|rM J J<|rY J J J<|bndE h fun v2 e1 h=>t_call1 J (tenant_view_path_c e1) (CoL.refl _) (.cons .p0 (.cons .p0 .nil)) (fun _=>J) J fun b3=>rY J J J<|rM J J<|rY J J J<|bndE h fun v4 e2 h=>r_callpB J (slices_Contains_string_string_c e2) (.cons (CoB.arrT .p2) (.cons (.co (.refl _)) .nil)) J J<|rT J J J<|rA J J<|rN<|ATodo.stop<|ImpX.lq [0,0] ⟨v4,h,J⟩ J J
    · exact have h := iteF hc h; rG J J J J<|rG J J J J<|rG J J J J<|rG J J J J<|rE J J J<|rA J J<|rN<|ATodo.stop<|ImpX.lq [0,0] ⟨false,h,J⟩ J J
  · rintro σ' ⟨c1, h, rfl⟩
    unfold tenant_view_belongs_j1 at h
    refine ATodo.ret<|?_
    obtain rfl := Option.some.inj h
    exact ImpX.here ⟨_,.cons (.tmp _ _ J) .nil,_,.cons .p0 (.cons .p0 .nil),⟨J,J⟩⟩

theorem item_Measure_bd_c [GI : GTab] {self : Query → Option (Int × Int)} (self_h : ∀ {p0x0 : Query} {r : Int × Int},self p0x0 = some r → Pu Tryz.prog 211 [.agg [I p0x0.Kind,.str p0x0.Field,.str p0x0.Op,I p0x0.Value.Kind,.bool p0x0.Value.Flag,I p0x0.Value.Number,.str p0x0.Value.Words,I p0x0.Version.Major,I p0x0.Version.Minor,I p0x0.Version.Patch,.list 11 (p0x0.Kids.map Query.av)]] (.tup [I r.1,I r.2])) {p0x0 : Query} {r : Int × Int} (h : item_Measure_bd self p0x0 = some r) : Pu Tryz.prog 211 [.agg [I p0x0.Kind,.str p0x0.Field,.str p0x0.Op,I p0x0.Value.Kind,.bool p0x0.Value.Flag,I p0x0.Value.Number,.str p0x0.Value.Words,I p0x0.Version.Major,I p0x0.Version.Minor,I p0x0.Version.Patch,.list 11 (p0x0.Kids.map Query.av)]] (.tup [I r.1,I r.2]) := by
  unfold item_Measure_bd at h
  refine ACall.bodyN Tryz.func211 J Tryz.ntmps211 Tryz.results211 J J ?_
  refine tSR<|n_box J J J J fun b1=>rA J J<|rA J J<|rN<|tS<|tS<|ATodo.cut (fun σ'=>∃ (c2 : Bool),item_Measure_j1 self p0x0 c2 = some r ∧ σ' = ⟨38,[(1,.ptr b1 0),(2,I (0 : Int)),(3,I (0 : Int)),(15,.bool c2)],[(b1,.cells [I p0x0.Kind,.str p0x0.Field,.str p0x0.Op,I p0x0.Value.Kind,.bool p0x0.Value.Flag,I p0x0.Value.Number,.str p0x0.Value.Words,I p0x0.Version.Major,I p0x0.Version.Minor,I p0x0.Version.Patch,.list 11 (p0x0.Kids.map Query.av)])]⟩) ?_ ?_
  · refine tR<|rF J J J<|rL J J .p0 J J<|ARun.qv (q_eql J J) J<|rM J J<|ARun.guard_df J J J (fun hc=>?_) (fun hc=>?_)
    · rw [orFd hc] at h
      exact rF J J J<|rY J J J<|rL J J .p0 J J<|rY J J J<|ARun.qv (q_eql J J) J<|rE J J J<|rN<|ATodo.stop<|ImpX.lq [0] ⟨decide (p0x0.Kind = (2 : Int)),h,J⟩ J J
    · rw [orTd hc] at h
      exact rG J J J J<|rG J J J J<|rT J J J<|rN<|ATodo.stop<|ImpX.lq [0] ⟨true,h,J⟩ J J
  · rintro σ' ⟨c2, h, rfl⟩
    unfold item_Measure_j1 at h
    refine ATodo.cut (fun σ'=>∃ (n3 : Int),item_Measure_j2 self p0x0 n3 = some r ∧ σ' = ⟨38,[(1,.ptr b1 0),(2,I n3),(3,I (0 : Int))],[(b1,.cells [I p0x0.Kind,.str p0x0.Field,.str p0x0.Op,I p0x0.Value.Kind,.bool p0x0.Value.Flag,I p0x0.Value.Number,.str p0x0.Value.Words,I p0x0.Version.Major,I p0x0.Version.Minor,I p0x0.Version.Patch,.list 11 (p0x0.Kids.map Query.av)])]⟩) ?_ ?_
    · refine ATodo.cond J (fun hc=>?_) (fun hc=>?_)
      · exact have h := iteT hc h; tR<|rA J J<|rN<|ATodo.stop<|ImpX.lq [0] ⟨(1 : Int),h,J⟩ J J
      · exact have h := iteFb hc h; tK<|ATodo.stop<|ImpX.lq [0] ⟨(0 : Int),h,J⟩ J J
    · rintro σ' ⟨n3, h, rfl⟩
      unfold item_Measure_j2 at h
      refine tS<|tSR<|rF J J J<|rL J J .p0 J J<|ARun.qv (t_len J) J<|rM J J<|rN<|ATodo.block<|ATodo.loopI (fun x : Int × Int × Int=>item_Measure_b1 self p0x0 x.1 x.2.1 x.2.2) (fun x σ'=>σ' = ⟨38,[(2,I x.1),(3,I x.2.1),(17,.list 11 (p0x0.Kids.map Query.av)),(18,I (p0x0.Kids.length : Int)),(19,I x.2.2)],[]⟩) h ?_ ?_
      · exact ImpX.lq [] J J J
      · intro x z1 σ' J1 hmk h hJ1 hA1
        obtain ⟨n7, n8, n9⟩ := x
        obtain rfl := hmk
        replace h : item_Measure_b1 self p0x0 n7 n8 n9 = some z1 := h
        unfold item_Measure_b1 at h
        refine tSR<|ARun.qv (q_lss J J) J<|rN<|tS<|ATodo.cond_d J (fun hc=>?_) (fun hc=>?_)
        · refine have h := iteT hc h; tK<|tS<|ATodo.block<|tSR<|bndE h fun v10 e1 h=>ARun.qv (t_index J J J e1 J (by rw [Query.av_eq]; rfl)) J<|ARun.qv (q_load_rptr_agg J J J) J<|n_alloc J J J J fun b11=>n_store_ptr J J J J .p0 J J<|rN<|tSR<|ARun.qv (q_load_ptr_all J J .p0 J) J<|bndE h fun v12 e2 h=>r_callp J (self_h e2) (CoL.refl _) J<|rM J J<|rX J J J<|rX J J J<|rA J J<|rA J J<|rN<|tR<|rM J J<|rM J J<|ARun.qv (q_addw J J) J<|rM J J<|rM J J<|ARun.qv (q_max J J) J<|rA J J<|rA J J<|rN<|ATodo.blk<|tR<|ARun.qv (q_addw J J) J<|rM J J<|rN<|ATodo.stop<|?_
          obtain rfl := Option.some.inj h
          exact hJ1 _ _ J<|ImpX.lq [] J J J
        · refine have h := iteF hc h; ATodo.exit J<|have h := outL h hA1; tSR<|rM J J<|rM J J<|ARun.qv (q_addw J J) J<|rA J J<|rA J J<|rN<|ATodo.ret<|?_
          obtain rfl := Option.some.inj h
          exact ImpX.here ⟨_,.cons (.tmp _ _ J) (.cons (.tmp _ _ J) .nil),J⟩
theorem item_Measure_r_c [GI : GTab] : ∀ (k : Nat) {p0x0 : Query} {r : Int × Int},item_Measure_r k p0x0 = some r → Pu Tryz.prog 211 [.agg [I p0x0.Kind,.str p0x0.Field,.str p0x0.Op,I p0x0.Value.Kind,.bool p0x0.Value.Flag,I p0x0.Value.Number,.str p0x0.Value.Words,I p0x0.Version.Major,I p0x0.Version.Minor,I p0x0.Version.Patch,.list 11 (p0x0.Kids.map Query.av)]] (.tup [I r.1,I r.2]) := by
  intro k
  induction k with
  | zero=>intro p0x0 r h; cases h
  | succ k ih=>intro p0x0 r h; exact item_Measure_bd_c ih h
theorem item_Measure_c [GI : GTab] {p0x0 : Query} {r : Int × Int} (h : item_Measure p0x0 = some r) : Pu Tryz.prog 211 [.agg [I p0x0.Kind,.str p0x0.Field,.str p0x0.Op,I p0x0.Value.Kind,.bool p0x0.Value.Flag,I p0x0.Value.Number,.str p0x0.Value.Words,I p0x0.Version.Major,I p0x0.Version.Minor,I p0x0.Version.Patch,.list 11 (p0x0.Kids.map Query.av)]] (.tup [I r.1,I r.2]) := item_Measure_r_c depth h

theorem base_Out_c [GI : GTab] {p0x0 : Int} {p1x0 : Int} {p2x0 : Int} {r : Bool} (h : base_Out p0x0 p1x0 p2x0 = r) : Pu Tryz.prog 188 [I p0x0,I p1x0,I p2x0] (.bool r) := by
  unfold base_Out at h
  refine ACall.bodyN Tryz.func188 J Tryz.ntmps188 Tryz.results188 J J ?_
  refine tSR<|rA J J<|rN<|tS<|ATodo.cut (fun σ'=>∃ (c1 : Bool),base_Out_j1 c1 = r ∧ σ' = ⟨15,[(6,.bool c1)],[]⟩) ?_ ?_
  · refine tR<|rM J J<|rM J J<|ARun.qv (q_lss J J) J<|rM J J<|ARun.guard_df J J J (fun hc=>?_) (fun hc=>?_)
    · rw [orFd hc] at h
      exact rM J J<|rY J J J<|rM J J<|rY J J J<|ARun.qv (q_gtr J J) J<|rE J J J<|rA J J<|rN<|ATodo.stop<|ImpX.lq [] ⟨decide (p2x0 < p0x0),h,J⟩ J J
    · rw [orTd hc] at h
      exact rG J J J J<|rG J J J J<|rT J J J<|rA J J<|rN<|ATodo.stop<|ImpX.lq [] ⟨true,h,J⟩ J J
  · rintro σ' ⟨c1, h, rfl⟩
    unfold base_Out_j1 at h
    refine ATodo.ret<|?_
    obtain rfl := h
    exact ImpX.here ⟨_,.cons (.tmp _ _ J) .nil,J⟩

theorem item_formFault_1x_c [GI : GTab] {p0x0 : Query} {p1x0 : Query} {r : Bool} (h : item_formFault_1x p0x0 p1x0 = r) : Pu Tryz.prog 258 [.agg [I p0x0.Kind,.str p0x0.Field,.str p0x0.Op,I p0x0.Value.Kind,.bool p0x0.Value.Flag,I p0x0.Value.Number,.str p0x0.Value.Words,I p0x0.Version.Major,I p0x0.Version.Minor,I p0x0.Version.Patch,.list 11 (p0x0.Kids.map Query.av)],.rptr [I p1x0.Kind,.str p1x0.Field,.str p1x0.Op,I p1x0.Value.Kind,.bool p1x0.Value.Flag,I p1x0.Value.Number,.str p1x0.Value.Words,I p1x0.Version.Major,I p1x0.Version.Minor,I p1x0.Version.Patch,.list 11 (p1x0.Kids.map Query.av)]] (.bool r) := by
  unfold item_formFault_1x at h
  refine ACall.bodyN Tryz.func258 J Tryz.ntmps258 Tryz.results258 J J ?_
  refine tSR<|n_box J J J J fun b1=>rA J J<|rN<|tSR<|rF J J J<|rL J J .p0 J J<|ARun.qv (n_field_rptr J J) J<|ARun.qv (q_load_rptr J J J) J<|ARun.qv (q_eql J J) J<|rA J J<|rN<|ATodo.ret<|?_
  obtain rfl := h
  exact ImpX.here ⟨_,.cons (.tmp _ _ J) .nil,J⟩

theorem item_formFault_c [GI : GTab] {p0x0 : Query} {r : Int} (h : item_formFault p0x0 = some r) : Pu Tryz.prog 241 [.agg [I p0x0.Kind,.str p0x0.Field,.str p0x0.Op,I p0x0.Value.Kind,.bool p0x0.Value.Flag,I p0x0.Value.Number,.str p0x0.Value.Words,I p0x0.Version.Major,I p0x0.Version.Minor,I p0x0.Version.Patch,.list 11 (p0x0.Kids.map Query.av)]] (I r) := by
  unfold item_formFault at h
  refine ACall.bodyN Tryz.func241 J Tryz.ntmps241 Tryz.results241 J J ?_
  refine tSR<|n_box J J J J fun b1=>rA J J<|rN<|tS<|tSR<|rF J J J<|rL J J .p0 J J<|r_callp J (base_Out_c J) (CoL.refl _) J<|rN<|ATodo.cond J (fun hc=>?_) (fun hc=>?_)
  · refine have h := iteT hc h; tSR<|rA J J<|rN<|ATodo.ret<|?_
    obtain rfl := Option.some.inj h
    exact ImpX.here ⟨_,.cons (.tmp _ _ J) .nil,J⟩
  · refine have h := iteFb hc h; tK<|tSR<|rF J J J<|rL J J .p0 J J<|ARun.qv (t_len J) J<|rA J J<|rN<|tSR<|rM J J<|ARun.qv (q_neq J J) J<|rA J J<|rN<|tSR<|rF J J J<|rL J J .p0 J J<|ARun.qv (n_build J J J J J) J<|n_alloc J J J J fun b2=>n_store_ptr J J J J .p0 J J<|rN<|tS<|tSR<|rF J J J<|rL J J .p1 J J<|rN<|ATodo.block<|tSR<|ARun.qv (q_eql J J) J<|rA J J<|rN<|ATodo.cut (fun σ'=>∃ (c3 : Bool) (q4 : Str) (q5 : Str) (n6 : Int) (c7 : Bool) (n8 : Int) (q9 : Str) (n10 : Int) (n11 : Int) (n12 : Int),item_formFault_j1 p0x0 c3 q4 q5 n6 c7 n8 q9 n10 n11 n12 = some r ∧ σ' = ⟨79,[(1,.ptr b1 0),(4,.bool c3),(5,.ptr b2 0)],[(b1,.cells [I p0x0.Kind,.str p0x0.Field,.str p0x0.Op,I p0x0.Value.Kind,.bool p0x0.Value.Flag,I p0x0.Value.Number,.str p0x0.Value.Words,I p0x0.Version.Major,I p0x0.Version.Minor,I p0x0.Version.Patch,.list 11 (p0x0.Kids.map Query.av)]),(b2,.cells [I p0x0.Kind,.str q4,.str q5,I n6,.bool c7,I n8,.str q9,I n10,I n11,I n12,.nil])]⟩) ?_ ?_
    · refine ATodo.cond_d J (fun hc=>?_) (fun hc=>?_)
      · refine have h := iteT hc h; ATodo.regionT (id := 9) (A := [0,1,0,4,0,16,0,64,3,259,783,1807,3903,7999,16383,32767]) (H0 := [(b2,.cells [I p0x0.Kind,.str [],.str [],I (0 : Int),.bool false,I (0 : Int),.str [],I (0 : Int),I (0 : Int),I (0 : Int),.nil])]) (HH := fun β=>[(b2,.cells [I p0x0.Kind,.str p0x0.Field,.str p0x0.Op,I p0x0.Value.Kind,.bool p0x0.Value.Flag,I p0x0.Value.Number,.str p0x0.Value.Words,I (0 : Int),I (0 : Int),I (0 : Int),.nil]),(b1,.cells [I p0x0.Kind,.str p0x0.Field,.str p0x0.Op,I p0x0.Value.Kind,.bool p0x0.Value.Flag,I p0x0.Value.Number,.str p0x0.Value.Words,I p0x0.Version.Major,I p0x0.Version.Minor,I p0x0.Version.Patch,.list 11 (p0x0.Kids.map Query.av)])]) 14 mixed J (by kernel_rfl) (by kernel_rfl) [⟨none,some 9,[],fun _=>(b2,.cells [I p0x0.Kind,.str [],.str [],I (0 : Int),.bool false,I (0 : Int),.str [],I (0 : Int),I (0 : Int),I (0 : Int),.nil]),none⟩,⟨some 9,some 11,[],fun _=>(b2,.cells [I p0x0.Kind,.str p0x0.Field,.str [],I (0 : Int),.bool false,I (0 : Int),.str [],I (0 : Int),I (0 : Int),I (0 : Int),.nil]),none⟩,⟨some 11,some 13,[],fun _=>(b2,.cells [I p0x0.Kind,.str p0x0.Field,.str p0x0.Op,I (0 : Int),.bool false,I (0 : Int),.str [],I (0 : Int),I (0 : Int),I (0 : Int),.nil]),none⟩,⟨some 13,none,[],fun _=>(b2,.cells [I p0x0.Kind,.str p0x0.Field,.str p0x0.Op,I p0x0.Value.Kind,.bool p0x0.Value.Flag,I p0x0.Value.Number,.str p0x0.Value.Words,I (0 : Int),I (0 : Int),I (0 : Int),.nil]),none⟩] [] J (by kernel_rfl) J (.cons .p0 .nil) (fun _=>J)<|AT.am 9 J J<|AM.qv (n_field_ptr J J) J<|AM.qv (q_load_ptr J J .p0 J) J<|AM.qv (n_field_ptr J J) J<|AM.qv (q_load_ptr J J .p0 J) J<|AM.qv (n_field_ptr J J) J<|AM.qv (n_load_ptr_part J J .p0 J J) J<|AM.qv (n_field_ptr J J) J<|AM.qv (n_load_ptr_part J J .p0 J J) J<|AM.qv (n_field_ptr J J) J<|AM.nil<|AT.run0 (Ti := [(b2,.cells [I p0x0.Kind,.str [],.str [],I (0 : Int),.bool false,I (0 : Int),.str [],I (0 : Int),I (0 : Int),I (0 : Int),.nil])]) (Pi := [(b2,.cells [I p0x0.Kind,.str p0x0.Field,.str [],I (0 : Int),.bool false,I (0 : Int),.str [],I (0 : Int),I (0 : Int),I (0 : Int),.nil])]) (fun _=>J) (fun _=>J) (fun _=>J) J J ?_ ?_
        · exact n_store_ptr J J J J .p0 J J<|ARun.nil ⟨_,J⟩
        refine AT.am 1 J J<|AM.qv (n_field_ptr J J) J<|AM.nil<|AT.run0 (Ti := [(b2,.cells [I p0x0.Kind,.str p0x0.Field,.str [],I (0 : Int),.bool false,I (0 : Int),.str [],I (0 : Int),I (0 : Int),I (0 : Int),.nil])]) (Pi := [(b2,.cells [I p0x0.Kind,.str p0x0.Field,.str p0x0.Op,I (0 : Int),.bool false,I (0 : Int),.str [],I (0 : Int),I (0 : Int),I (0 : Int),.nil])]) (fun _=>J) (fun _=>J) (fun _=>J) J J ?_ ?_
        · exact n_store_ptr J J J J .p0 J J<|ARun.nil ⟨_,J⟩
        refine AT.am 1 J J<|AM.qv (n_field_ptr J J) J<|AM.nil<|AT.run0 (Ti := [(b2,.cells [I p0x0.Kind,.str p0x0.Field,.str p0x0.Op,I (0 : Int),.bool false,I (0 : Int),.str [],I (0 : Int),I (0 : Int),I (0 : Int),.nil])]) (Pi := [(b2,.cells [I p0x0.Kind,.str p0x0.Field,.str p0x0.Op,I p0x0.Value.Kind,.bool p0x0.Value.Flag,I p0x0.Value.Number,.str p0x0.Value.Words,I (0 : Int),I (0 : Int),I (0 : Int),.nil])]) (fun _=>J) (fun _=>J) (fun _=>J) J J ?_ ?_
        · exact n_store_ptr J J J J .p0 J J<|ARun.nil ⟨_,J⟩
        exact AT.nilN (fun _=>J) fun β=>rF J J J<|n_store_ptr J J J J .p0 J J<|rN<|ATodo.stop<|ImpX.lq [1,0] ⟨decide ((p0x0.Kids.length : Int) ≠ (0 : Int)),p0x0.Field,p0x0.Op,p0x0.Value.Kind,p0x0.Value.Flag,p0x0.Value.Number,p0x0.Value.Words,p0x0.Version.Major,p0x0.Version.Minor,p0x0.Version.Patch,h,J⟩ J J
      · refine have h := iteF hc h; tSR<|ARun.qv (q_eql J J) J<|rA J J<|rN<|ATodo.cut (fun σ'=>∃ (c13 : Bool) (q14 : Str),item_formFault_j2 p0x0 c13 q14 = some r ∧ σ' = ⟨79,[(1,.ptr b1 0),(4,.bool c13),(5,.ptr b2 0)],[(b1,.cells [I p0x0.Kind,.str p0x0.Field,.str p0x0.Op,I p0x0.Value.Kind,.bool p0x0.Value.Flag,I p0x0.Value.Number,.str p0x0.Value.Words,I p0x0.Version.Major,I p0x0.Version.Minor,I p0x0.Version.Patch,.list 11 (p0x0.Kids.map Query.av)]),(b2,.cells [I p0x0.Kind,.str q14,.str [],I (0 : Int),.bool false,I (0 : Int),.str [],I (0 : Int),I (0 : Int),I (0 : Int),.nil])]⟩) ?_ ?_
        · refine ATodo.cond_d J (fun hc=>?_) (fun hc=>?_)
          · exact have h := iteT hc h; tR<|rF J J J<|rL J J .p1 J J<|rF J J J<|n_store_ptr J J J J .p0 J J<|rN<|ATodo.stop<|ImpX.lq [1,0] ⟨decide ((p0x0.Kids.length : Int) ≠ (0 : Int)),p0x0.Field,h,J⟩ J J
          · refine have h := iteF hc h; tSR<|ARun.qv (q_eql J J) J<|rA J J<|rN<|ATodo.cut (fun σ'=>∃ (c15 : Bool),item_formFault_j3 p0x0 c15 = some r ∧ σ' = ⟨79,[(1,.ptr b1 0),(4,.bool c15),(5,.ptr b2 0)],[(b1,.cells [I p0x0.Kind,.str p0x0.Field,.str p0x0.Op,I p0x0.Value.Kind,.bool p0x0.Value.Flag,I p0x0.Value.Number,.str p0x0.Value.Words,I p0x0.Version.Major,I p0x0.Version.Minor,I p0x0.Version.Patch,.list 11 (p0x0.Kids.map Query.av)]),(b2,.cells [I p0x0.Kind,.str [],.str [],I (0 : Int),.bool false,I (0 : Int),.str [],I (0 : Int),I (0 : Int),I (0 : Int),.nil])]⟩) ?_ ?_
            · refine ATodo.cond_d J (fun hc=>?_) (fun hc=>?_)
              · exact have h := iteT hc h; tR<|rM J J<|ARun.qv (q_neq J J) J<|rA J J<|rN<|ATodo.stop<|ImpX.lq [1,0] ⟨decide ((p0x0.Kids.length : Int) ≠ (1 : Int)),h,J⟩ J J
              · refine have h := iteF hc h; ATodo.cut (fun σ'=>∃ (c16 : Bool),item_formFault_j4 p0x0 c16 = some r ∧ σ' = ⟨79,[(1,.ptr b1 0),(4,.bool c16),(5,.ptr b2 0)],[(b1,.cells [I p0x0.Kind,.str p0x0.Field,.str p0x0.Op,I p0x0.Value.Kind,.bool p0x0.Value.Flag,I p0x0.Value.Number,.str p0x0.Value.Words,I p0x0.Version.Major,I p0x0.Version.Minor,I p0x0.Version.Patch,.list 11 (p0x0.Kids.map Query.av)]),(b2,.cells [I p0x0.Kind,.str [],.str [],I (0 : Int),.bool false,I (0 : Int),.str [],I (0 : Int),I (0 : Int),I (0 : Int),.nil])]⟩) ?_ ?_
                · refine tR<|rM J J<|ARun.qv (q_lss J J) J<|rM J J<|ARun.guard_df J J J (fun hc=>?_) (fun hc=>?_)
                  · exact have h := iteF hc h; rF J J J<|rY J J J<|rL J J .p1 J J<|rY J J J<|ARun.qv (q_makeFunc J) J<|rY J J J<|bndE h fun v17 e1 h=>r_callpB J (slices_ContainsFunc_Query_Query_c (fun e=>item_formFault_1x_c (Option.some.inj e)) e1) (.cons (.co (.refl _)) (.cons (.funcL _ _ _ (.cons (.boxL _ _ _ .p1 (.cons (.co (.refl _)) (.cons (.co (.refl _)) (.cons (.co (.refl _)) (.cons (.co (.refl _)) (.cons (.co (.refl _)) (.cons (.co (.refl _)) (.cons (.co (.refl _)) (.cons (.co (.refl _)) (.cons (.co (.refl _)) (.cons (.co (.refl _)) (.cons (.co (.refl _)) .nil)))))))))))) .nil)) .nil)) J J<|rE J J J<|rA J J<|rN<|ATodo.stop<|ImpX.lq [1,0] ⟨v17,h,J⟩ J J
                  · exact have h := iteT hc h; rG J J J J<|rG J J J J<|rG J J J J<|rT J J J<|rA J J<|rN<|ATodo.stop<|ImpX.lq [1,0] ⟨true,h,J⟩ J J
                · rintro σ' ⟨c16, h, rfl⟩
                  unfold item_formFault_j4 at h
                  exact ATodo.stop<|ImpX.lq [0,0] ⟨c16,h,J⟩ J J
            · rintro σ' ⟨c15, h, rfl⟩
              unfold item_formFault_j3 at h
              exact ATodo.stop<|ImpX.lq [0,0] ⟨c15,[],h,J⟩ J J
        · rintro σ' ⟨c13, q14, h, rfl⟩
          unfold item_formFault_j2 at h
          exact ATodo.stop<|ImpX.lq [0,0] ⟨c13,q14,[],(0 : Int),false,(0 : Int),[],(0 : Int),(0 : Int),(0 : Int),h,J⟩ J J
    · rintro σ' ⟨c3, q4, q5, n6, c7, n8, q9, n10, n11, n12, h, rfl⟩
      unfold item_formFault_j1 at h
      refine ATodo.blk<|tS<|tS<|ATodo.cut (fun σ'=>∃ (c18 : Bool),item_formFault_j5 c18 = some r ∧ σ' = ⟨79,[(78,.bool c18)],[]⟩) ?_ ?_
      · refine tR<|rM J J<|rM J J<|ARun.guard J J J (fun hc=>?_) (fun hc=>?_)
        · rw [orFb hc] at h
          refine rF J J J<|rY J J J<|rL J J .p1 J J<|rY J J J<|rF J J J<|rY J J J<|rL J J .p0 J J<|rY J J J<|ARun.qv (q_sne J J) J<|rE J J J<|rM J J<|ARun.guard_df J J J (fun hc=>?_) (fun hc=>?_)
          · rw [orFd hc] at h
            refine rF J J J<|rY J J J<|rL J J .p1 J J<|rY J J J<|rF J J J<|rY J J J<|rL J J .p0 J J<|rY J J J<|ARun.qv (q_sne J J) J<|rE J J J<|rM J J<|ARun.guard_df J J J (fun hc=>?_) (fun hc=>?_)
            · rw [orFd hc] at h
              refine rF J J J<|rY J J J<|ARun.qv (n_load_ptr_part J J .p1 J J) J<|rY J J J<|rF J J J<|rY J J J<|ARun.qv (n_load_ptr_part J J .p0 J J) J<|rY J J J<|ARun.qv (t_tne (g := ValueS.av) (X := (⟨n6,c7,n8,q9⟩ : ValueS)) (Y := p0x0.Value) J J J J J) J<|rE J J J<|rM J J<|ARun.guard_df J J J (fun hc=>?_) (fun hc=>?_)
              · rw [orFd hc] at h
                exact rF J J J<|rY J J J<|ARun.qv (n_load_ptr_part J J .p1 J J) J<|rY J J J<|rF J J J<|rY J J J<|ARun.qv (n_load_ptr_part J J .p0 J J) J<|rY J J J<|ARun.qv (t_tne (g := Version.av) (X := (⟨n10,n11,n12⟩ : Version)) (Y := p0x0.Version) J J J J J) J<|rE J J J<|rN<|ATodo.stop<|ImpX.lq [] ⟨decide ((⟨n10,n11,n12⟩ : Version) ≠ p0x0.Version),h,J⟩ J J
              · rw [orTd hc] at h
                exact rG J J J J<|rG J J J J<|rG J J J J<|rG J J J J<|rT J J J<|rN<|ATodo.stop<|ImpX.lq [] ⟨true,h,J⟩ J J
            · rw [orTd hc] at h
              exact rG J J J J<|rG J J J J<|rG J J J J<|rG J J J J<|rT J J J<|rM J J<|rG J J J J<|rG J J J J<|rG J J J J<|rG J J J J<|rG J J J J<|rT J J J<|rN<|ATodo.stop<|ImpX.lq [] ⟨true,h,J⟩ J J
          · rw [orTd hc] at h
            exact rG J J J J<|rG J J J J<|rG J J J J<|rG J J J J<|rT J J J<|rM J J<|rG J J J J<|rG J J J J<|rG J J J J<|rG J J J J<|rG J J J J<|rT J J J<|rM J J<|rG J J J J<|rG J J J J<|rG J J J J<|rG J J J J<|rG J J J J<|rT J J J<|rN<|ATodo.stop<|ImpX.lq [] ⟨true,h,J⟩ J J
        · rw [orTb hc] at h
          exact rG J J J J<|rG J J J J<|rG J J J J<|rG J J J J<|rT J J J<|rM J J<|rG J J J J<|rG J J J J<|rG J J J J<|rG J J J J<|rG J J J J<|rT J J J<|rM J J<|rG J J J J<|rG J J J J<|rG J J J J<|rG J J J J<|rG J J J J<|rT J J J<|rM J J<|rG J J J J<|rG J J J J<|rG J J J J<|rG J J J J<|rG J J J J<|rT J J J<|rN<|ATodo.stop<|ImpX.lq [] ⟨true,h,J⟩ J J
      · rintro σ' ⟨c18, h, rfl⟩
        unfold item_formFault_j5 at h
        refine ATodo.cond J (fun hc=>?_) (fun hc=>?_)
        · refine have h := iteT hc h; tSR<|rA J J<|rN<|ATodo.ret<|?_
          obtain rfl := Option.some.inj h
          exact ImpX.here ⟨_,.cons (.tmp _ _ J) .nil,J⟩
        · refine have h := iteFb hc h; tK<|tSR<|rA J J<|rN<|ATodo.ret<|?_
          obtain rfl := Option.some.inj h
          exact ImpX.here ⟨_,.cons (.tmp _ _ J) .nil,J⟩

theorem item_isTag_c [GI : GTab] {p0x0 : Str} {r : Bool} (h : item_isTag p0x0 = some r) : Pu Tryz.prog 260 [.str p0x0] (.bool r) := by
  unfold item_isTag at h
  refine ACall.bodyN Tryz.func260 J Tryz.ntmps260 Tryz.results260 J J ?_
  refine tSR<|rA J J<|rN<|tSR<|rM J J<|bndE h fun v1 e1 h=>r_callp J (strings_CutPrefix_c e1) (CoL.refl _) J<|rM J J<|rX J J J<|rX J J J<|rA J J<|rA J J<|rN<|tS<|ATodo.cut (fun σ'=>∃ (c2 : Bool),item_isTag_j1 c2 = some r ∧ σ' = ⟨15,[(2,.bool c2)],[]⟩) ?_ ?_
  · refine tR<|rM J J<|rM J J<|ARun.guard J J J (fun hc=>?_) (fun hc=>?_)
    · exact have h := iteT hc h; rM J J<|rY J J J<|bndE h fun v3 e2 h=>r_callp J (base_Key_c e2) (CoL.refl _) J<|rT J J J<|rA J J<|rN<|ATodo.stop<|ImpX.lq [] ⟨v3,h,J⟩ J J
    · exact have h := iteFb hc h; rG J J J J<|rE J J J<|rA J J<|rN<|ATodo.stop<|ImpX.lq [] ⟨false,h,J⟩ J J
  · rintro σ' ⟨c2, h, rfl⟩
    unfold item_isTag_j1 at h
    refine ATodo.ret<|?_
    obtain rfl := Option.some.inj h
    exact ImpX.here ⟨_,.cons (.tmp _ _ J) .nil,J⟩

theorem item_Property_c {p0x0 : Str} {r : Bool} (h : item_Property p0x0 = some r) : Pu Tryz.prog 174 [.str p0x0] (.bool r) := by
  unfold item_Property at h
  refine ACall.bodyN Tryz.func174 J Tryz.ntmps174 Tryz.results174 J J ?_
  refine tSR<|rA J J<|rN<|tS<|ATodo.cut (fun σ'=>∃ (c1 : Bool),item_Property_j1 c1 = some r ∧ σ' = ⟨10,[(2,.bool c1)],[]⟩) ?_ ?_
  · refine tR<|rM J J<|ARun.qv (q_len_str J) J<|ARun.qv (q_leq J J) J<|rM J J<|ARun.guard_dt J J J (fun hc=>?_) (fun hc=>?_)
    · exact have h := iteT hc h; rM J J<|rY J J J<|bndE h fun v2 e1 h=>r_callp J (base_Dotted_c e1) (CoL.refl _) J<|rT J J J<|rA J J<|rN<|ATodo.stop<|ImpX.lq [] ⟨v2,h,J⟩ J J
    · exact have h := iteF hc h; rG J J J J<|rE J J J<|rA J J<|rN<|ATodo.stop<|ImpX.lq [] ⟨false,h,J⟩ J J
  · rintro σ' ⟨c1, h, rfl⟩
    unfold item_Property_j1 at h
    refine ATodo.ret<|?_
    obtain rfl := Option.some.inj h
    exact ImpX.here ⟨_,.cons (.tmp _ _ J) .nil,J⟩

theorem item_isProp_c {p0x0 : Str} {r : Bool} (h : item_isProp p0x0 = some r) : Pu Tryz.prog 261 [.str p0x0] (.bool r) := by
  unfold item_isProp at h
  refine ACall.bodyN Tryz.func261 J Tryz.ntmps261 Tryz.results261 J J ?_
  refine tSR<|rA J J<|rN<|tSR<|rM J J<|bndE h fun v1 e1 h=>r_callp J (strings_CutPrefix_c e1) (CoL.refl _) J<|rM J J<|rX J J J<|rX J J J<|rA J J<|rA J J<|rN<|tS<|ATodo.cut (fun σ'=>∃ (c2 : Bool),item_isProp_j1 c2 = some r ∧ σ' = ⟨15,[(2,.bool c2)],[]⟩) ?_ ?_
  · refine tR<|rM J J<|rM J J<|ARun.guard J J J (fun hc=>?_) (fun hc=>?_)
    · exact have h := iteT hc h; rM J J<|rY J J J<|bndE h fun v3 e2 h=>r_callp J (item_Property_c e2) (CoL.refl _) J<|rT J J J<|rA J J<|rN<|ATodo.stop<|ImpX.lq [] ⟨v3,h,J⟩ J J
    · exact have h := iteFb hc h; rG J J J J<|rE J J J<|rA J J<|rN<|ATodo.stop<|ImpX.lq [] ⟨false,h,J⟩ J J
  · rintro σ' ⟨c2, h, rfl⟩
    unfold item_isProp_j1 at h
    refine ATodo.ret<|?_
    obtain rfl := Option.some.inj h
    exact ImpX.here ⟨_,.cons (.tmp _ _ J) .nil,J⟩

theorem item_Field_c {p0x0 : Str} {r : Bool} (h : item_Field p0x0 = some r) : Pu Tryz.prog 259 [.str p0x0] (.bool r) := by
  unfold item_Field at h
  refine ACall.bodyN Tryz.func259 J Tryz.ntmps259 Tryz.results259 J J ?_
  refine tSR<|rA J J<|rN<|tS<|ATodo.cut (fun σ'=>∃ (c1 : Bool),item_Field_j1 c1 = some r ∧ σ' = ⟨25,[(2,.bool c1)],[]⟩) ?_ ?_
  · refine tR<|rM J J<|ARun.qv (q_seq J J) J<|rM J J<|ARun.guard_df J J J (fun hc=>?_) (fun hc=>?_)
    · refine have h := iteF hc h; rM J J<|rY J J J<|ARun.qv (q_seq J J) J<|rE J J J<|rM J J<|ARun.guard_df J J J (fun hc=>?_) (fun hc=>?_)
      · refine have h := iteF hc h; rM J J<|rY J J J<|ARun.qv (q_seq J J) J<|rE J J J<|rM J J<|ARun.guard_df J J J (fun hc=>?_) (fun hc=>?_)
        · refine have h := iteF hc h; rM J J<|rY J J J<|ARun.qv (q_seq J J) J<|rE J J J<|rM J J<|ARun.guard_df J J J (fun hc=>?_) (fun hc=>?_)
          · refine have h := iteF hc h; rM J J<|rY J J J<|bndE h fun v2 e1 h=>r_callp J (item_isTag_c e1) (CoL.refl _) J<|rE J J J<|rM J J<|ARun.guard J J J (fun hc=>?_) (fun hc=>?_)
            · exact have h := iteFb hc h; rM J J<|rY J J J<|bndE h fun v3 e2 h=>r_callp J (item_isProp_c e2) (CoL.refl _) J<|rE J J J<|rA J J<|rN<|ATodo.stop<|ImpX.lq [] ⟨v3,h,J⟩ J J
            · exact have h := iteT hc h; rG J J J J<|rT J J J<|rA J J<|rN<|ATodo.stop<|ImpX.lq [] ⟨true,h,J⟩ J J
          · exact have h := iteT hc h; rG J J J J<|rT J J J<|rM J J<|rG J J J J<|rG J J J J<|rT J J J<|rA J J<|rN<|ATodo.stop<|ImpX.lq [] ⟨true,h,J⟩ J J
        · exact have h := iteT hc h; rG J J J J<|rT J J J<|rM J J<|rG J J J J<|rG J J J J<|rT J J J<|rM J J<|rG J J J J<|rG J J J J<|rT J J J<|rA J J<|rN<|ATodo.stop<|ImpX.lq [] ⟨true,h,J⟩ J J
      · exact have h := iteT hc h; rG J J J J<|rT J J J<|rM J J<|rG J J J J<|rG J J J J<|rT J J J<|rM J J<|rG J J J J<|rG J J J J<|rT J J J<|rM J J<|rG J J J J<|rG J J J J<|rT J J J<|rA J J<|rN<|ATodo.stop<|ImpX.lq [] ⟨true,h,J⟩ J J
    · exact have h := iteT hc h; rG J J J J<|rT J J J<|rM J J<|rG J J J J<|rG J J J J<|rT J J J<|rM J J<|rG J J J J<|rG J J J J<|rT J J J<|rM J J<|rG J J J J<|rG J J J J<|rT J J J<|rM J J<|rG J J J J<|rG J J J J<|rT J J J<|rA J J<|rN<|ATodo.stop<|ImpX.lq [] ⟨true,h,J⟩ J J
  · rintro σ' ⟨c1, h, rfl⟩
    unfold item_Field_j1 at h
    refine ATodo.ret<|?_
    obtain rfl := Option.some.inj h
    exact ImpX.here ⟨_,.cons (.tmp _ _ J) .nil,J⟩

theorem item_Operations_c [GI : GTab] {r : (List Str)} (h : item_Operations = r) : ACall Tryz.prog 262 [] [] (T1 (fun d_0=>[(d_0,.arr 1 (r.map AV.str))]) (fun d_0=>.sl 1 d_0 0 r.length)) := by
  unfold item_Operations at h
  refine ACall.lessH ?_
  refine ACall.bodyN Tryz.func262 J Tryz.ntmps262 Tryz.results262 J J ?_
  refine tSR<|rA J J<|rN<|tSR<|n_buildSlice J J J J J J fun b1=>rA J J<|rN<|ATodo.ret<|?_
  obtain rfl := h
  exact ImpX.here ⟨_,.cons (.tmp _ _ J) .nil,_,.cons .p0 .nil,⟨b1,J,J⟩⟩

theorem base_Version_c [GI : GTab] {p0x0 : Version} {r : Bool} (h : base_Version p0x0 = r) : Pu Tryz.prog 172 [.agg [I p0x0.Major,I p0x0.Minor,I p0x0.Patch]] (.bool r) := by
  unfold base_Version at h
  refine ACall.bodyN Tryz.func172 J Tryz.ntmps172 Tryz.results172 J J ?_
  refine tSR<|n_box J J J J fun b1=>rA J J<|rN<|tS<|ATodo.cut (fun σ'=>∃ (c2 : Bool),base_Version_j1 c2 = r ∧ σ' = ⟨19,[(2,.bool c2)],[]⟩) ?_ ?_
  · refine tR<|rF J J J<|rL J J .p0 J J<|r_callp J (base_Out_c J) (CoL.refl _) J<|ARun.qv (q_not J) J<|rM J J<|ARun.guard J J J (fun hc=>?_) (fun hc=>?_)
    · rw [andTb hc] at h
      refine rF J J J<|rY J J J<|rL J J .p0 J J<|rY J J J<|r_callp J (base_Out_c J) (CoL.refl _) J<|rY J J J<|ARun.qv (q_not J) J<|rT J J J<|rM J J<|ARun.guard J J J (fun hc=>?_) (fun hc=>?_)
      · rw [andTb hc] at h
        exact rF J J J<|rY J J J<|rL J J .p0 J J<|rY J J J<|r_callp J (base_Out_c J) (CoL.refl _) J<|rY J J J<|ARun.qv (q_not J) J<|rT J J J<|rA J J<|rN<|ATodo.stop<|ImpX.lq [] ⟨!(base_Out p0x0.Patch (0 : Int) (9999 : Int)),h,J⟩ J J
      · rw [andFb hc] at h
        exact rG J J J J<|rG J J J J<|rG J J J J<|rE J J J<|rA J J<|rN<|ATodo.stop<|ImpX.lq [] ⟨false,h,J⟩ J J
    · rw [andFb hc] at h
      exact rG J J J J<|rG J J J J<|rG J J J J<|rE J J J<|rM J J<|rG J J J J<|rG J J J J<|rG J J J J<|rG J J J J<|rE J J J<|rA J J<|rN<|ATodo.stop<|ImpX.lq [] ⟨false,h,J⟩ J J
  · rintro σ' ⟨c2, h, rfl⟩
    unfold base_Version_j1 at h
    refine ATodo.ret<|?_
    obtain rfl := h
    exact ImpX.here ⟨_,.cons (.tmp _ _ J) .nil,J⟩

theorem item_Right_c {p0x0 : ValueS} {r : Bool} (h : item_Right p0x0 = some r) : Pu Tryz.prog 175 [.agg [I p0x0.Kind,.bool p0x0.Flag,I p0x0.Number,.str p0x0.Words]] (.bool r) := by
  unfold item_Right at h
  refine ACall.bodyN Tryz.func175 J Tryz.ntmps175 Tryz.results175 J J ?_
  refine tSR<|n_box J J J J fun b1=>rA J J<|rN<|tSR<|rF J J J<|rL J J .p0 J J<|ARun.qv (n_build J J J J J) J<|n_alloc J J J J fun b2=>n_store_ptr J J J J .p0 J J<|rN<|tS<|tSR<|rF J J J<|rL J J .p1 J J<|rN<|ATodo.block<|tSR<|ARun.qv (q_eql J J) J<|rA J J<|rN<|ATodo.cut (fun σ'=>∃ (c3 : Bool) (n4 : Int) (q5 : Str),item_Right_j1 p0x0 c3 n4 q5 = some r ∧ σ' = ⟨46,[(1,.ptr b1 0),(3,.ptr b2 0)],[(b1,.cells [I p0x0.Kind,.bool p0x0.Flag,I p0x0.Number,.str p0x0.Words]),(b2,.cells [I p0x0.Kind,.bool c3,I n4,.str q5])]⟩) ?_ ?_
  · refine ATodo.cond_d J (fun hc=>?_) (fun hc=>?_)
    · exact have h := iteT hc h; tK<|ATodo.stop<|ImpX.lq [1,0] ⟨false,(0 : Int),[],h,J⟩ J J
    · refine have h := iteF hc h; tSR<|ARun.qv (q_eql J J) J<|rA J J<|rN<|ATodo.cut (fun σ'=>∃ (c6 : Bool) (n7 : Int) (q8 : Str),item_Right_j2 p0x0 c6 n7 q8 = some r ∧ σ' = ⟨46,[(1,.ptr b1 0),(3,.ptr b2 0)],[(b1,.cells [I p0x0.Kind,.bool p0x0.Flag,I p0x0.Number,.str p0x0.Words]),(b2,.cells [I p0x0.Kind,.bool c6,I n7,.str q8])]⟩) ?_ ?_
      · refine ATodo.cond_d J (fun hc=>?_) (fun hc=>?_)
        · exact have h := iteT hc h; tR<|rF J J J<|rL J J .p1 J J<|rF J J J<|n_store_ptr J J J J .p0 J J<|rN<|ATodo.stop<|ImpX.lq [1,0] ⟨p0x0.Flag,(0 : Int),[],h,J⟩ J J
        · refine have h := iteF hc h; tSR<|ARun.qv (q_eql J J) J<|rA J J<|rN<|ATodo.cut (fun σ'=>∃ (n9 : Int) (q10 : Str),item_Right_j3 p0x0 n9 q10 = some r ∧ σ' = ⟨46,[(1,.ptr b1 0),(3,.ptr b2 0)],[(b1,.cells [I p0x0.Kind,.bool p0x0.Flag,I p0x0.Number,.str p0x0.Words]),(b2,.cells [I p0x0.Kind,.bool false,I n9,.str q10])]⟩) ?_ ?_
          · refine ATodo.cond_d J (fun hc=>?_) (fun hc=>?_)
            · exact have h := iteT hc h; tR<|rF J J J<|rL J J .p1 J J<|rF J J J<|n_store_ptr J J J J .p0 J J<|rN<|ATodo.stop<|ImpX.lq [1,0] ⟨p0x0.Number,[],h,J⟩ J J
            · refine have h := iteF hc h; tSR<|ARun.qv (q_eql J J) J<|rA J J<|rN<|ATodo.cond_d J (fun hc=>?_) (fun hc=>?_)
              · exact have h := iteT hc h; tR<|rF J J J<|rL J J .p1 J J<|rF J J J<|n_store_ptr J J J J .p0 J J<|rN<|ATodo.stop<|ImpX.lq [1,0] ⟨(0 : Int),p0x0.Words,h,J⟩ J J
              · refine have h := iteF hc h; tSR<|rA J J<|rN<|ATodo.ret<|?_
                obtain rfl := Option.some.inj h
                exact ImpX.here ⟨_,.cons (.tmp _ _ J) .nil,J⟩
          · rintro σ' ⟨n9, q10, h, rfl⟩
            unfold item_Right_j3 at h
            exact ATodo.stop<|ImpX.lq [0,0] ⟨false,n9,q10,h,J⟩ J J
      · rintro σ' ⟨c6, n7, q8, h, rfl⟩
        unfold item_Right_j2 at h
        exact ATodo.stop<|ImpX.lq [0,0] ⟨c6,n7,q8,h,J⟩ J J
  · rintro σ' ⟨c3, n4, q5, h, rfl⟩
    unfold item_Right_j1 at h
    refine ATodo.blk<|tS<|ATodo.cut (fun σ'=>∃ (c11 : Bool),item_Right_j4 c11 = some r ∧ σ' = ⟨46,[(2,.bool c11)],[]⟩) ?_ ?_
    · refine tR<|ARun.qv (q_load_ptr_all J J .p0 J) J<|ARun.qv (q_load_ptr_all J J .p1 J) J<|ARun.qv (t_teq (g := ValueS.av) (X := p0x0) (Y := (⟨p0x0.Kind,c3,n4,q5⟩ : ValueS)) J J J J J) J<|rM J J<|ARun.guard_dt J J J (fun hc=>?_) (fun hc=>?_)
      · refine have h := iteT hc h; rF J J J<|rY J J J<|rL J J .p0 J J<|rY J J J<|r_callp J (base_Out_c J) (CoL.refl _) J<|rY J J J<|ARun.qv (q_not J) J<|rT J J J<|rM J J<|ARun.guard J J J (fun hc=>?_) (fun hc=>?_)
        · refine have h := iteT hc h; rF J J J<|rY J J J<|rL J J .p0 J J<|rY J J J<|ARun.qv (q_len_str J) J<|rY J J J<|ARun.qv (q_leq J J) J<|rT J J J<|rM J J<|ARun.guard_dt J J J (fun hc=>?_) (fun hc=>?_)
          · exact have h := iteT hc h; rF J J J<|rY J J J<|rL J J .p0 J J<|rY J J J<|bndE h fun v12 e1 h=>r_callp J (utf8_ValidString_c e1) (CoL.refl _) J<|rT J J J<|rA J J<|rN<|ATodo.stop<|ImpX.lq [] ⟨v12,h,J⟩ J J
          · exact have h := iteF hc h; rG J J J J<|rG J J J J<|rE J J J<|rA J J<|rN<|ATodo.stop<|ImpX.lq [] ⟨false,h,J⟩ J J
        · exact have h := iteFb hc h; rG J J J J<|rG J J J J<|rG J J J J<|rE J J J<|rM J J<|rG J J J J<|rG J J J J<|rG J J J J<|rE J J J<|rA J J<|rN<|ATodo.stop<|ImpX.lq [] ⟨false,h,J⟩ J J
      · exact have h := iteF hc h; rG J J J J<|rG J J J J<|rG J J J J<|rE J J J<|rM J J<|rG J J J J<|rG J J J J<|rG J J J J<|rG J J J J<|rE J J J<|rM J J<|rG J J J J<|rG J J J J<|rG J J J J<|rE J J J<|rA J J<|rN<|ATodo.stop<|ImpX.lq [] ⟨false,h,J⟩ J J
    · rintro σ' ⟨c11, h, rfl⟩
      unfold item_Right_j4 at h
      refine ATodo.ret<|?_
      obtain rfl := Option.some.inj h
      exact ImpX.here ⟨_,.cons (.tmp _ _ J) .nil,J⟩

theorem item_leafFault_c {p0x0 : Query} {r : Int} (h : item_leafFault p0x0 = some r) : Pu Tryz.prog 242 [.agg [I p0x0.Kind,.str p0x0.Field,.str p0x0.Op,I p0x0.Value.Kind,.bool p0x0.Value.Flag,I p0x0.Value.Number,.str p0x0.Value.Words,I p0x0.Version.Major,I p0x0.Version.Minor,I p0x0.Version.Patch,.list 11 (p0x0.Kids.map Query.av)]] (I r) := by
  unfold item_leafFault at h
  refine ACall.bodyN Tryz.func242 J Tryz.ntmps242 Tryz.results242 J J ?_
  refine tSR<|n_box J J J J fun b1=>rA J J<|rN<|tS<|tS<|ATodo.cut (fun σ'=>∃ (c2 : Bool),item_leafFault_j1 p0x0 c2 = some r ∧ σ' = ⟨98,[(1,.ptr b1 0),(24,.bool c2)],[(b1,.cells [I p0x0.Kind,.str p0x0.Field,.str p0x0.Op,I p0x0.Value.Kind,.bool p0x0.Value.Flag,I p0x0.Value.Number,.str p0x0.Value.Words,I p0x0.Version.Major,I p0x0.Version.Minor,I p0x0.Version.Patch,.list 11 (p0x0.Kids.map Query.av)])]⟩) ?_ ?_
  · refine tR<|rF J J J<|rL J J .p0 J J<|bndE h fun v3 e1 h=>r_callp J (item_Field_c e1) (CoL.refl _) J<|ARun.qv (q_not J) J<|rM J J<|ARun.guard J J J (fun hc=>?_) (fun hc=>?_)
    · refine have h := iteFb hc h; rF J J J<|rY J J J<|rL J J .p0 J J<|rY J J J<|ARun.qv (q_eql J J) J<|rY J J J<|rM J J<|ARun.guard_dt J J J (fun hc=>?_) (fun hc=>?_)
      · refine have h := iteT hc h; rF J J J<|rY J J J<|rL J J .p0 J J<|rY J J J<|bndE h fun v4 e2 h=>r_callp J (item_isTag_c e2) (CoL.refl _) J<|rY J J J<|ARun.qv (q_not J) J<|rY J J J<|rT J J J<|rY J J J<|rM J J<|ARun.guard J J J (fun hc=>?_) (fun hc=>?_)
        · exact have h := iteT hc h; rF J J J<|rY J J J<|rL J J .p0 J J<|rY J J J<|bndE h fun v5 e3 h=>r_callp J (item_isProp_c e3) (CoL.refl _) J<|rY J J J<|ARun.qv (q_not J) J<|rY J J J<|rT J J J<|rE J J J<|rN<|ATodo.stop<|ImpX.lq [0] ⟨!v5,h,J⟩ J J
        · exact have h := iteFb hc h; rG J J J J<|rG J J J J<|rG J J J J<|rY J J J<|rE J J J<|rE J J J<|rN<|ATodo.stop<|ImpX.lq [0] ⟨false,h,J⟩ J J
      · exact have h := iteF hc h; rG J J J J<|rG J J J J<|rG J J J J<|rY J J J<|rE J J J<|rY J J J<|rM J J<|rG J J J J<|rG J J J J<|rG J J J J<|rG J J J J<|rY J J J<|rE J J J<|rE J J J<|rN<|ATodo.stop<|ImpX.lq [0] ⟨false,h,J⟩ J J
    · exact have h := iteT hc h; rG J J J J<|rG J J J J<|rG J J J J<|ARun.guard_und J J J<|ARun.guard_und J J J<|ARun.guard_und J J J<|ARun.guard_und J J J<|rG J J J J<|rG J J J J<|ARun.guard_und J J J<|ARun.guard_und J J J<|ARun.guard_und J J J<|ARun.guard_und J J J<|rG J J J J<|rT J J J<|rN<|ATodo.stop<|ImpX.lq [0] ⟨true,h,J⟩ J J
  · rintro σ' ⟨c2, h, rfl⟩
    unfold item_leafFault_j1 at h
    refine ATodo.cond J (fun hc=>?_) (fun hc=>?_)
    · refine have h := iteT hc h; tSR<|rA J J<|rN<|ATodo.ret<|?_
      obtain rfl := Option.some.inj h
      exact ImpX.here ⟨_,.cons (.tmp _ _ J) .nil,J⟩
    · refine have h := iteFb hc h; tK<|tS<|tSR<|rF J J J<|rL J J .p0 J J<|ARun.qv (q_eql J J) J<|rN<|ATodo.cond_d J (fun hc=>?_) (fun hc=>?_)
      · refine have h := iteT hc h; tSR<|rA J J<|rN<|ATodo.ret<|?_
        obtain rfl := Option.some.inj h
        exact ImpX.here ⟨_,.cons (.tmp _ _ J) .nil,J⟩
      · refine have h := iteF hc h; tK<|tSR<|rF J J J<|rL J J .p0 J J<|ARun.qv (q_seq J J) J<|rA J J<|rN<|tS<|ATodo.block<|tS<|ATodo.regionT (id := 6) (A := [0,0,2,7,15,31]) (H0 := []) (HH := fun β=>[((β 0),.arr 1 (item_Operations.map AV.str)),(b1,.cells [I p0x0.Kind,.str p0x0.Field,.str p0x0.Op,I p0x0.Value.Kind,.bool p0x0.Value.Flag,I p0x0.Value.Number,.str p0x0.Value.Words,I p0x0.Version.Major,I p0x0.Version.Minor,I p0x0.Version.Patch,.list 11 (p0x0.Kids.map Query.av)])]) 3 mixed J (by kernel_rfl) (by kernel_rfl) [⟨some 0,none,[],fun b=>(b,.arr 1 (item_Operations.map AV.str)),none⟩] [0] J (by kernel_rfl) J .nil (fun _=>J)<|AT.runD (V := fun b=>.sl 1 b 0 item_Operations.length) (Ti := []) (Pi := fun b=>[(b,.arr 1 (item_Operations.map AV.str))]) (fun _=>J) (fun _=>J) (fun _ _=>J) J (fun _=>J) J J J ?_ ?_
        · exact t_call1 J (item_Operations_c J) (CoL.refl _) .nil (fun _=>J) J fun b6=>ARun.nil ⟨b6,_,J,J⟩
        refine AT.am 2 J J<|AM.qv (n_field_ptr J J) J<|AM.qv (q_load_ptr J J .p0 J) J<|AM.nil<|AT.nilN (fun _=>J) fun β=>?_
        generalize β 0 = b6
        clear β
        refine bndE h fun v7 e4 h=>r_callpB J (slices_Contains_string_string_c e4) (.cons (CoB.arrT .p0) (.cons (.co (.refl _)) .nil)) J J<|ARun.qv (q_not J) J<|rA J J<|rN<|ATodo.cond J (fun hc=>?_) (fun hc=>?_)
        · refine have h := iteT hc h; tSR<|rA J J<|rN<|ATodo.ret<|?_
          obtain rfl := Option.some.inj h
          exact ImpX.here ⟨_,.cons (.tmp _ _ J) .nil,J⟩
        · refine have h := iteFb hc h; tS<|ATodo.cut (fun σ'=>∃ (c8 : Bool),item_leafFault_j2 p0x0 c8 = some r ∧ σ' = ⟨98,[(1,.ptr b1 0),(3,.bool (decide (p0x0.Field = ([102,105,114,109,119,97,114,101] : Str)))),(37,.bool c8)],[(b1,.cells [I p0x0.Kind,.str p0x0.Field,.str p0x0.Op,I p0x0.Value.Kind,.bool p0x0.Value.Flag,I p0x0.Value.Number,.str p0x0.Value.Words,I p0x0.Version.Major,I p0x0.Version.Minor,I p0x0.Version.Patch,.list 11 (p0x0.Kids.map Query.av)])]⟩) ?_ ?_
          · refine tR<|rM J J<|rM J J<|ARun.guard_dt J J J (fun hc=>?_) (fun hc=>?_)
            · rw [andTd hc] at h
              exact rF J J J<|rY J J J<|ARun.qv (n_load_ptr_part J J .p1 J J) J<|rY J J J<|ARun.qv (n_build J J J J J) J<|rY J J J<|ARun.qv (t_tne (g := ValueS.av) (X := p0x0.Value) (Y := (⟨(0 : Int),false,(0 : Int),[]⟩ : ValueS)) J J J J J) J<|rT J J J<|rA J J<|rN<|ATodo.stop<|ImpX.lq [1] ⟨decide (p0x0.Value ≠ (⟨(0 : Int),false,(0 : Int),[]⟩ : ValueS)),h,J⟩ J J
            · rw [andFd hc] at h
              exact rG J J J J<|rG J J J J<|rG J J J J<|rE J J J<|rA J J<|rN<|ATodo.stop<|ImpX.lq [1] ⟨false,h,J⟩ J J
          · rintro σ' ⟨c8, h, rfl⟩
            unfold item_leafFault_j2 at h
            refine ATodo.cond J (fun hc=>?_) (fun hc=>?_)
            · refine have h := iteT hc h; tSR<|rA J J<|rN<|ATodo.ret<|?_
              obtain rfl := Option.some.inj h
              exact ImpX.here ⟨_,.cons (.tmp _ _ J) .nil,J⟩
            · refine have h := iteFb hc h; tS<|ATodo.cut (fun σ'=>∃ (c9 : Bool),item_leafFault_j3 p0x0 c9 = some r ∧ σ' = ⟨98,[(1,.ptr b1 0),(3,.bool (decide (p0x0.Field = ([102,105,114,109,119,97,114,101] : Str)))),(45,.bool c9)],[(b1,.cells [I p0x0.Kind,.str p0x0.Field,.str p0x0.Op,I p0x0.Value.Kind,.bool p0x0.Value.Flag,I p0x0.Value.Number,.str p0x0.Value.Words,I p0x0.Version.Major,I p0x0.Version.Minor,I p0x0.Version.Patch,.list 11 (p0x0.Kids.map Query.av)])]⟩) ?_ ?_
              · refine tR<|rM J J<|rM J J<|ARun.guard_dt J J J (fun hc=>?_) (fun hc=>?_)
                · rw [andTd hc] at h
                  exact rF J J J<|rY J J J<|ARun.qv (n_load_ptr_part J J .p0 J J) J<|rY J J J<|r_callp J (base_Version_c J) (CoL.refl _) J<|rY J J J<|ARun.qv (q_not J) J<|rT J J J<|rA J J<|rN<|ATodo.stop<|ImpX.lq [0] ⟨!(base_Version p0x0.Version),h,J⟩ J J
                · rw [andFd hc] at h
                  exact rG J J J J<|rG J J J J<|rG J J J J<|rE J J J<|rA J J<|rN<|ATodo.stop<|ImpX.lq [0] ⟨false,h,J⟩ J J
              · rintro σ' ⟨c9, h, rfl⟩
                unfold item_leafFault_j3 at h
                refine ATodo.cond J (fun hc=>?_) (fun hc=>?_)
                · refine have h := iteT hc h; tSR<|rA J J<|rN<|ATodo.ret<|?_
                  obtain rfl := Option.some.inj h
                  exact ImpX.here ⟨_,.cons (.tmp _ _ J) .nil,J⟩
                · refine have h := iteFb hc h; tSR<|rM J J<|rA J J<|rN<|ATodo.cond_d J (fun hc=>?_) (fun hc=>?_)
                  · refine have h := iteT hc h; tSR<|rA J J<|rN<|ATodo.ret<|?_
                    obtain rfl := Option.some.inj h
                    exact ImpX.here ⟨_,.cons (.tmp _ _ J) .nil,J⟩
                  · refine have h := iteF hc h; tS<|ATodo.cut (fun σ'=>∃ (c10 : Bool),item_leafFault_j4 p0x0 c10 = some r ∧ σ' = ⟨98,[(1,.ptr b1 0),(55,.bool c10)],[(b1,.cells [I p0x0.Kind,.str p0x0.Field,.str p0x0.Op,I p0x0.Value.Kind,.bool p0x0.Value.Flag,I p0x0.Value.Number,.str p0x0.Value.Words,I p0x0.Version.Major,I p0x0.Version.Minor,I p0x0.Version.Patch,.list 11 (p0x0.Kids.map Query.av)])]⟩) ?_ ?_
                    · refine tR<|rF J J J<|ARun.qv (n_load_ptr_part J J .p0 J J) J<|ARun.qv (n_build J J J J J) J<|ARun.qv (t_tne (g := Version.av) (X := p0x0.Version) (Y := (⟨(0 : Int),(0 : Int),(0 : Int)⟩ : Version)) J J J J J) J<|rM J J<|ARun.guard_df J J J (fun hc=>?_) (fun hc=>?_)
                      · refine have h := iteF hc h; rF J J J<|rY J J J<|ARun.qv (n_load_ptr_part J J .p0 J J) J<|rY J J J<|bndE h fun v11 e5 h=>r_callp J (item_Right_c e5) (CoL.refl _) J<|rY J J J<|ARun.qv (q_not J) J<|rE J J J<|rM J J<|ARun.guard J J J (fun hc=>?_) (fun hc=>?_)
                        · rw [orFb hc] at h
                          exact rF J J J<|rY J J J<|rF J J J<|rY J J J<|rL J J .p0 J J<|rY J J J<|ARun.qv (q_eql J J) J<|rE J J J<|rA J J<|rN<|ATodo.stop<|ImpX.lq [0] ⟨decide (p0x0.Value.Kind = (0 : Int)),h,J⟩ J J
                        · rw [orTb hc] at h
                          exact rG J J J J<|rG J J J J<|rG J J J J<|rT J J J<|rA J J<|rN<|ATodo.stop<|ImpX.lq [0] ⟨true,h,J⟩ J J
                      · exact have h := iteT hc h; rG J J J J<|rG J J J J<|rG J J J J<|rT J J J<|rM J J<|rG J J J J<|rG J J J J<|rG J J J J<|rG J J J J<|rT J J J<|rA J J<|rN<|ATodo.stop<|ImpX.lq [0] ⟨true,h,J⟩ J J
                    · rintro σ' ⟨c10, h, rfl⟩
                      unfold item_leafFault_j4 at h
                      refine ATodo.cond J (fun hc=>?_) (fun hc=>?_)
                      · refine have h := iteT hc h; tSR<|rA J J<|rN<|ATodo.ret<|?_
                        obtain rfl := Option.some.inj h
                        exact ImpX.here ⟨_,.cons (.tmp _ _ J) .nil,J⟩
                      · refine have h := iteFb hc h; tS<|ATodo.cut (fun σ'=>∃ (c12 : Bool),item_leafFault_j5 p0x0 c12 = some r ∧ σ' = ⟨98,[(1,.ptr b1 0),(72,.bool c12)],[(b1,.cells [I p0x0.Kind,.str p0x0.Field,.str p0x0.Op,I p0x0.Value.Kind,.bool p0x0.Value.Flag,I p0x0.Value.Number,.str p0x0.Value.Words,I p0x0.Version.Major,I p0x0.Version.Minor,I p0x0.Version.Patch,.list 11 (p0x0.Kids.map Query.av)])]⟩) ?_ ?_
                        · refine tR<|rF J J J<|rF J J J<|rL J J .p0 J J<|ARun.qv (q_neq J J) J<|rM J J<|ARun.guard_dt J J J (fun hc=>?_) (fun hc=>?_)
                          · exact have h := iteT hc h; rF J J J<|rY J J J<|rL J J .p0 J J<|rY J J J<|bndE h fun v13 e6 h=>r_callp J (item_isProp_c e6) (CoL.refl _) J<|rY J J J<|ARun.qv (q_not J) J<|rT J J J<|rA J J<|rN<|ATodo.stop<|ImpX.lq [0] ⟨!v13,h,J⟩ J J
                          · exact have h := iteF hc h; rG J J J J<|rG J J J J<|rG J J J J<|rE J J J<|rA J J<|rN<|ATodo.stop<|ImpX.lq [0] ⟨false,h,J⟩ J J
                        · rintro σ' ⟨c12, h, rfl⟩
                          unfold item_leafFault_j5 at h
                          refine ATodo.cond J (fun hc=>?_) (fun hc=>?_)
                          · refine have h := iteT hc h; tSR<|rA J J<|rN<|ATodo.ret<|?_
                            obtain rfl := Option.some.inj h
                            exact ImpX.here ⟨_,.cons (.tmp _ _ J) .nil,J⟩
                          · refine have h := iteFb hc h; tS<|ATodo.cut (fun σ'=>∃ (c14 : Bool),item_leafFault_j6 c14 = some r ∧ σ' = ⟨98,[(83,.bool c14)],[]⟩) ?_ ?_
                            · refine tR<|rF J J J<|rF J J J<|rL J J .p0 J J<|ARun.qv (q_neq J J) J<|rM J J<|ARun.guard_dt J J J (fun hc=>?_) (fun hc=>?_)
                              · rw [andTd hc] at h
                                refine rF J J J<|rY J J J<|rL J J .p0 J J<|rY J J J<|ARun.qv (q_sne J J) J<|rT J J J<|rM J J<|ARun.guard_dt J J J (fun hc=>?_) (fun hc=>?_)
                                · rw [andTd hc] at h
                                  exact rF J J J<|rY J J J<|rL J J .p0 J J<|rY J J J<|ARun.qv (q_sne J J) J<|rT J J J<|rA J J<|rN<|ATodo.stop<|ImpX.lq [] ⟨decide (p0x0.Op ≠ ([33,61] : Str)),h,J⟩ J J
                                · rw [andFd hc] at h
                                  exact rG J J J J<|rG J J J J<|rE J J J<|rA J J<|rN<|ATodo.stop<|ImpX.lq [] ⟨false,h,J⟩ J J
                              · rw [andFd hc] at h
                                exact rG J J J J<|rG J J J J<|rE J J J<|rM J J<|rG J J J J<|rG J J J J<|rG J J J J<|rE J J J<|rA J J<|rN<|ATodo.stop<|ImpX.lq [] ⟨false,h,J⟩ J J
                            · rintro σ' ⟨c14, h, rfl⟩
                              unfold item_leafFault_j6 at h
                              refine ATodo.cond J (fun hc=>?_) (fun hc=>?_)
                              · refine have h := iteT hc h; tSR<|rA J J<|rN<|ATodo.ret<|?_
                                obtain rfl := Option.some.inj h
                                exact ImpX.here ⟨_,.cons (.tmp _ _ J) .nil,J⟩
                              · refine have h := iteFb hc h; tK<|ATodo.blk<|tSR<|rA J J<|rN<|ATodo.ret<|?_
                                obtain rfl := Option.some.inj h
                                exact ImpX.here ⟨_,.cons (.tmp _ _ J) .nil,J⟩

end Go.Proofs.YtohnopfmfehhkaaGreatDoor

