/- The code computes the plain functions: proofs written by shal.py. -/
import Derived.Test.YtnopmjdjgangdaaGreatDoorEvtW1
set_option maxHeartbeats 4000000
set_option maxRecDepth 100000
set_option linter.unusedVariables false
set_option linter.unusedSimpArgs false
namespace Go.Proofs.YtnopmjdjgangdaaGreatDoor
open Go Go.Eng Go.Proofs Go.Beacon
attribute [local irreducible] ARun ATodo AQ QV ACall ImpX AWp AM
theorem Q_eventUses_c [GI : GTab] {p0x0 : Int} {r : Str} (h : Q_eventUses p0x0 = some r) : Pu Tryz.prog 146 [I p0x0] (.str r) := by
  unfold Q_eventUses at h
  refine ACall.bodyN Tryz.func146 J Tryz.ntmps146 Tryz.results146 J J ?_
  refine tSR<|rA J J<|rN<|tSR<|n_buildSliceL (xs := ([([] : Str),([109,115,107] : Str),([116] : Str),([] : Str),([107,117] : Str),([102] : Str),([110,118] : Str),([] : Str),([] : Str),([] : Str)]).map AV.str) J J J J J J<|rM J J<|bndE h fun v1 e1 h=>ARun.qv (t_index J J J e1 J J) J<|ARun.qv (q_load_rptr J J J) J<|rA J J<|rN<|ATodo.ret<|?_
  obtain rfl := Option.some.inj h
  exact ImpX.here ⟨_,.cons (.tmp _ _ J) .nil,J⟩

theorem Q_EventFault_c {p0x0 : List Model} {p1x0 : EventS} {r : Int} (h : Q_EventFault p0x0 p1x0 = some r) : Pu Tryz.prog 77 [lE3 p0x0,EventS.av p1x0] (I r) := by
  unfold Q_EventFault at h
  refine ACall.bodyN Tryz.func77 J Tryz.ntmps77 Tryz.results77 J J ?_
  refine tSR<|n_box J J J J fun b1=>rA J J<|rN<|tS<|ATodo.block<|tSR<|rF J J J<|rL J J .p0 J J<|bndE h fun v2 e1 h=>r_callp J (Q_Key_c e1) (CoL.refl _) J<|ARun.qv (q_not J) J<|rA J J<|rN<|ATodo.cond J (fun hc=>?_) (fun hc=>?_)
  · refine have h := iteT hc h; tSR<|rA J J<|rN<|ATodo.ret<|?_
    obtain rfl := Option.some.inj h
    exact ImpX.here ⟨_,.cons (.tmp _ _ J) .nil,J⟩
  · refine have h := iteFb hc h; tS<|ATodo.cut (fun σ'=>∃ (c3 : Bool),Q_EventFault_j1 p0x0 p1x0 c3 = some r ∧ σ' = ⟨92,[(0,lE3 p0x0),(3,.ptr b1 0),(14,.bool c3)],[(b1,.cells (cE1 p1x0))]⟩) ?_ ?_
    · refine tR<|rF J J J<|rL J J .p0 J J<|r_callp J (Q_in_c J) (CoL.refl _) J<|ARun.qv (q_not J) J<|rM J J<|ARun.guard J J J (fun hc=>?_) (fun hc=>?_)
      · rw [orFb hc] at h
        refine rF J J J<|rY J J J<|rL J J .p0 J J<|rY J J J<|rF J J J<|rY J J J<|rL J J .p0 J J<|rY J J J<|r_callp J (Q_in_c J) (CoL.refl _) J<|rY J J J<|ARun.qv (q_not J) J<|rE J J J<|rM J J<|ARun.guard J J J (fun hc=>?_) (fun hc=>?_)
        · rw [orFb hc] at h
          exact rF J J J<|rY J J J<|rL J J .p0 J J<|rY J J J<|r_callp J (Q_MomentFault_c J) (CoL.refl _) J<|rY J J J<|ARun.qv (q_neq J J) J<|rE J J J<|rA J J<|rN<|ATodo.stop<|ImpX.lq [0] ⟨decide ((Q_MomentFault p1x0.At) ≠ (0 : Int)),h,J⟩ J J
        · rw [orTb hc] at h
          exact rG J J J J<|rG J J J J<|rG J J J J<|rT J J J<|rA J J<|rN<|ATodo.stop<|ImpX.lq [0] ⟨true,h,J⟩ J J
      · rw [orTb hc] at h
        exact rG J J J J<|rG J J J J<|rG J J J J<|rG J J J J<|rG J J J J<|rT J J J<|rM J J<|rG J J J J<|rG J J J J<|rG J J J J<|rG J J J J<|rT J J J<|rA J J<|rN<|ATodo.stop<|ImpX.lq [0] ⟨true,h,J⟩ J J
    · rintro σ' ⟨c3, h, rfl⟩
      unfold Q_EventFault_j1 at h
      refine ATodo.cond J (fun hc=>?_) (fun hc=>?_)
      · refine have h := iteT hc h; tSR<|rA J J<|rN<|ATodo.ret<|?_
        obtain rfl := Option.some.inj h
        exact ImpX.here ⟨_,.cons (.tmp _ _ J) .nil,J⟩
      · refine have h := iteFb hc h; tSR<|rF J J J<|rL J J .p0 J J<|r_callp J (Q_in_c J) (CoL.refl _) J<|ARun.qv (q_not J) J<|rA J J<|rN<|ATodo.cond J (fun hc=>?_) (fun hc=>?_)
        · refine have h := iteT hc h; tSR<|rA J J<|rN<|ATodo.ret<|?_
          obtain rfl := Option.some.inj h
          exact ImpX.here ⟨_,.cons (.tmp _ _ J) .nil,J⟩
        · refine have h := iteFb hc h; tSR<|rF J J J<|rL J J .p0 J J<|bndE h fun v4 e2 h=>r_callp J (Q_Key_c e2) (CoL.refl _) J<|ARun.qv (q_not J) J<|rA J J<|rN<|ATodo.cond J (fun hc=>?_) (fun hc=>?_)
          · refine have h := iteT hc h; tSR<|rA J J<|rN<|ATodo.ret<|?_
            obtain rfl := Option.some.inj h
            exact ImpX.here ⟨_,.cons (.tmp _ _ J) .nil,J⟩
          · refine have h := iteFb hc h; tK<|ATodo.blk<|tS<|tSR<|rM J J<|ARun.qv (q_load_ptr_all J J .p0 J) J<|bndE h fun v5 e3 h=>r_callp J (Q_eventOwn_c e3) (CoL.refl _) J<|rA J J<|rN<|tSR<|rM J J<|ARun.qv (q_neq J J) J<|rN<|ATodo.cond_d J (fun hc=>?_) (fun hc=>?_)
            · refine have h := iteT hc h; tSR<|rM J J<|rA J J<|rN<|ATodo.ret<|?_
              obtain rfl := Option.some.inj h
              exact ImpX.here ⟨_,.cons (.tmp _ _ J) .nil,J⟩
            · refine have h := iteF hc h; tK<|tSR<|rF J J J<|rL J J .p0 J J<|bndE h fun v6 e4 h=>r_callp J (Q_eventUses_c e4) (CoL.refl _) J<|rA J J<|rN<|tS<|tS<|ATodo.regionL (id := 13) (A := [0,0,2,6,15,0,32,96,225,0,512,1536,3585,0,8192,24576,57345,0,131072,393216,917505,0,2097152,0,14680064,31457281,0,67108864,201326592,469762049,0,1073741824,3221225472,7516192769,17179869183,34359738367]) 34 mixed J (by kernel_rfl) (by kernel_rfl) 0 [(0,52)] AV.str AV.bool ([(4,([109] : Str),decide (p1x0.Model ≠ ([] : Str))),(8,([115] : Str),decide (p1x0.Serial ≠ (0 : Int))),(12,([107] : Str),decide (p1x0.Key ≠ ([] : Str))),(16,([116] : Str),decide (p1x0.Tenant ≠ ([] : Str))),(20,([117] : Str),decide (p1x0.Until ≠ (0 : Int))),(25,([102] : Str),decide (p1x0.Firmware ≠ (⟨(0 : Int),(0 : Int),(0 : Int)⟩ : Version))),(29,([110] : Str),decide (p1x0.Name ≠ ([] : Str))),(33,([118] : Str),decide (p1x0.Value ≠ ([] : Str)))] : List (Nat × Str × Bool)) J J J<|AL.mk [4,8,12,16,20,25,29,33] J J J J J<|AL.am 3 J J<|AM.qv (n_field_ptr J J) J<|AM.qv (q_load_ptr J J .p0 J) J<|AM.qv (q_sne J J) J<|AM.nil<|AL.ins (gk := AV.str) (gv := AV.bool) (key := ([109] : Str)) (v := decide (p1x0.Model ≠ ([] : Str))) [(0,52)] J J J J J (fun _=>J) (fun _=>J) (fun _=>J) J<|AL.am 3 J J<|AM.qv (n_field_ptr J J) J<|AM.qv (q_load_ptr J J .p0 J) J<|AM.qv (q_neq J J) J<|AM.nil<|AL.ins (gk := AV.str) (gv := AV.bool) (key := ([115] : Str)) (v := decide (p1x0.Serial ≠ (0 : Int))) [(0,52)] J J J J J (fun _=>J) (fun _=>J) (fun _=>J) J<|AL.am 3 J J<|AM.qv (n_field_ptr J J) J<|AM.qv (q_load_ptr J J .p0 J) J<|AM.qv (q_sne J J) J<|AM.nil<|AL.ins (gk := AV.str) (gv := AV.bool) (key := ([107] : Str)) (v := decide (p1x0.Key ≠ ([] : Str))) [(0,52)] J J J J J (fun _=>J) (fun _=>J) (fun _=>J) J<|AL.am 3 J J<|AM.qv (n_field_ptr J J) J<|AM.qv (q_load_ptr J J .p0 J) J<|AM.qv (q_sne J J) J<|AM.nil<|AL.ins (gk := AV.str) (gv := AV.bool) (key := ([116] : Str)) (v := decide (p1x0.Tenant ≠ ([] : Str))) [(0,52)] J J J J J (fun _=>J) (fun _=>J) (fun _=>J) J<|AL.am 3 J J<|AM.qv (n_field_ptr J J) J<|AM.qv (q_load_ptr J J .p0 J) J<|AM.qv (q_neq J J) J<|AM.nil<|AL.ins (gk := AV.str) (gv := AV.bool) (key := ([117] : Str)) (v := decide (p1x0.Until ≠ (0 : Int))) [(0,52)] J J J J J (fun _=>J) (fun _=>J) (fun _=>J) J<|AL.am 4 J J<|AM.qv (n_field_ptr J J) J<|AM.qv (n_load_ptr_part J J .p0 J J) J<|AM.qv (n_build J J J J J) J<|AM.qv (t_tne (g := Version.av) (X := p1x0.Firmware) (Y := (⟨(0 : Int),(0 : Int),(0 : Int)⟩ : Version)) J J J J J) J<|AM.nil<|AL.ins (gk := AV.str) (gv := AV.bool) (key := ([102] : Str)) (v := decide (p1x0.Firmware ≠ (⟨(0 : Int),(0 : Int),(0 : Int)⟩ : Version))) [(0,52)] J J J J J (fun _=>J) (fun _=>J) (fun _=>J) J<|AL.am 3 J J<|AM.qv (n_field_ptr J J) J<|AM.qv (q_load_ptr J J .p0 J) J<|AM.qv (q_sne J J) J<|AM.nil<|AL.ins (gk := AV.str) (gv := AV.bool) (key := ([110] : Str)) (v := decide (p1x0.Name ≠ ([] : Str))) [(0,52)] J J J J J (fun _=>J) (fun _=>J) (fun _=>J) J<|AL.am 3 J J<|AM.qv (n_field_ptr J J) J<|AM.qv (q_load_ptr J J .p0 J) J<|AM.qv (q_sne J J) J<|AM.nil<|AL.ins (gk := AV.str) (gv := AV.bool) (key := ([118] : Str)) (v := decide (p1x0.Value ≠ ([] : Str))) [(0,52)] J J J J J (fun _=>J) (fun _=>J) (fun _=>J) J<|AL.nil fun b7=>ARun.ghost<|ImpX.obEq (b := b7) (o' := mE8 ([(([109] : Str),decide (p1x0.Model ≠ ([] : Str))),(([115] : Str),decide (p1x0.Serial ≠ (0 : Int))),(([107] : Str),decide (p1x0.Key ≠ ([] : Str))),(([116] : Str),decide (p1x0.Tenant ≠ ([] : Str))),(([117] : Str),decide (p1x0.Until ≠ (0 : Int))),(([102] : Str),decide (p1x0.Firmware ≠ (⟨(0 : Int),(0 : Int),(0 : Int)⟩ : Version))),(([110] : Str),decide (p1x0.Name ≠ ([] : Str))),(([118] : Str),decide (p1x0.Value ≠ ([] : Str)))] : List (Str × Bool))) J .p0<|ImpX.here<|rM J J<|t_range (M := ([(([109] : Str),decide (p1x0.Model ≠ ([] : Str))),(([115] : Str),decide (p1x0.Serial ≠ (0 : Int))),(([107] : Str),decide (p1x0.Key ≠ ([] : Str))),(([116] : Str),decide (p1x0.Tenant ≠ ([] : Str))),(([117] : Str),decide (p1x0.Until ≠ (0 : Int))),(([102] : Str),decide (p1x0.Firmware ≠ (⟨(0 : Int),(0 : Int),(0 : Int)⟩ : Version))),(([110] : Str),decide (p1x0.Name ≠ ([] : Str))),(([118] : Str),decide (p1x0.Value ≠ ([] : Str)))] : List (Str × Bool))) (enc := eE8) J (fun _ _=>.p0) J fun b8 Le5 ce5 hLe5 hIe5=>rN<|ATodo.block<|ATodo.loopMap (fun e (x : Unit)=>Q_EventFault_b1 v6 e) (fun x : Unit=>Q_EventFault_f1) (fun R x σ'=>∃ (s1m : List Nat),MIter Le5 ce5 s1m (R.map eE8) ∧ σ' = ⟨92,[(6,.str v6),(79,.ptr b8 0)],[(b8,.mit b7 ce5 s1m),(b7,.mpb Le5 ce5)]⟩) h ?_ ?_
              · exact ImpX.lq [0,0] ⟨[],hIe5,J⟩ J J
              · intro R1 x σ' J1 hmk hH1 hK1
                obtain ⟨s1m, hI1m, rfl⟩ := hmk
                refine tSR<|t_next J hI1m .p1 (fun _=>.p0) J (fun hN=>?_) (fun v1m R' sv1m hP hlen hIv1m hCv1m=>?_)
                · have h := nilL hH1 hN
                  replace h : Q_EventFault_f1 = _ := h
                  unfold Q_EventFault_f1 at h
                  refine ARun.ghost<|ImpX.mpDone hLe5 .p1<|ImpX.here<|rX J J J<|rN<|tS<|ATodo.cond_f J<|ATodo.exit J<|tSR<|rA J J<|rN<|ATodo.ret<|?_
                  obtain rfl := Option.some.inj h
                  exact ImpX.here ⟨_,.cons (.tmp _ _ J) .nil,J⟩
                · obtain ⟨z1, h, hN1, hA1⟩ := stepL hH1 hP
                  replace h : Q_EventFault_b1 v6 v1m = some z1 := h
                  unfold Q_EventFault_b1 at h
                  have hJ1 := fun y σ' (e : z1 = .inl y) hi=>hK1 R' y σ' hlen (hN1 y e) hi
                  clear hN1 hP hK1 hH1
                  refine rX J J J<|rN<|tS<|ATodo.cond_t J<|tK<|ATodo.block<|tSR<|ARun.qv (t_entry J .p0 .p1 hCv1m J J) J<|rX J J J<|rX J J J<|rA J J<|rA J J<|rN<|tS<|ATodo.cut (fun σ'=>∃ (c9 : Bool),Q_EventFault_j2 c9 = some z1 ∧ σ' = ⟨92,[(6,.str v6),(79,.ptr b8 0),(91,.bool c9)],[(b8,.mit b7 ce5 sv1m),(b7,.mpb Le5 ce5)]⟩) ?_ ?_
                  · refine tR<|rM J J<|rM J J<|ARun.guard J J J (fun hc=>?_) (fun hc=>?_)
                    · exact have h := iteT hc h; rM J J<|rY J J J<|rM J J<|rY J J J<|bndE h fun v10 e6 h=>r_callp J (strings_Contains_c e6) (CoL.refl _) J<|rY J J J<|ARun.qv (q_not J) J<|rT J J J<|rN<|ATodo.stop<|ImpX.lq [0,0] ⟨!v10,h,J⟩ J J
                    · exact have h := iteFb hc h; rG J J J J<|rG J J J J<|rG J J J J<|rE J J J<|rN<|ATodo.stop<|ImpX.lq [0,0] ⟨false,h,J⟩ J J
                  · rintro σ' ⟨c9, h, rfl⟩
                    unfold Q_EventFault_j2 at h
                    refine ATodo.cond J (fun hc=>?_) (fun hc=>?_)
                    · refine have h := iteT hc h; tSR<|rA J J<|rN<|ATodo.ghost<|ImpX.mpDone hLe5 .p1<|ImpX.here<|ATodo.ret<|have h := outL h hA1; ?_
                      obtain rfl := Option.some.inj h
                      exact ImpX.here ⟨_,.cons (.tmp _ _ J) .nil,J⟩
                    · refine have h := iteFb hc h; tK<|ATodo.blk<|ATodo.stop<|?_
                      obtain rfl := Option.some.inj h
                      exact hJ1 _ _ J<|ImpX.lq [0,0] ⟨sv1m,hIv1m,J⟩ J J

theorem Q_EventsFault_c {p0x0 : List Model} {p1x0 : List EventS} {r : Int} (h : Q_EventsFault p0x0 p1x0 = some r) : Pu Tryz.prog 17 [lE3 p0x0,lE4 p1x0] (I r) := by
  unfold Q_EventsFault at h
  refine ACall.bodyN Tryz.func17 J Tryz.ntmps17 Tryz.results17 J J ?_
  refine tSR<|rA J J<|rN<|tS<|tSR<|rM J J<|ARun.qv (t_len J) J<|ARun.qv (q_gtr J J) J<|rN<|ATodo.cond_d J (fun hc=>?_) (fun hc=>?_)
  · refine have h := iteT hc h; tSR<|rA J J<|rN<|ATodo.ret<|?_
    obtain rfl := Option.some.inj h
    exact ImpX.here ⟨_,.cons (.tmp _ _ J) .nil,J⟩
  · refine have h := iteF hc h; tK<|tSR<|t_makeMap J fun b1=>rA J J<|rN<|tS<|tSR<|rM J J<|ARun.qv (t_len J) J<|rM J J<|rN<|ATodo.block<|ATodo.loopI (fun x : (List (Str × Int)) × Int=>Q_EventsFault_b1 p0x0 p1x0 x.1 x.2) (fun x σ'=>σ' = ⟨57,[(0,lE3 p0x0),(1,lE4 p1x0),(5,.mref b1),(13,lE4 p1x0),(14,I (p1x0.length : Int)),(15,I x.2)],[(b1,mE5 x.1)]⟩) h ?_ ?_
    · exact ImpX.lq [0] J J J
    · intro x z1 σ' J1 hmk h hJ1 hA1
      obtain ⟨l4, n5⟩ := x
      obtain rfl := hmk
      replace h : Q_EventsFault_b1 p0x0 p1x0 l4 n5 = some z1 := h
      unfold Q_EventsFault_b1 at h
      refine tSR<|ARun.qv (q_lss J J) J<|rN<|tS<|ATodo.cond_d J (fun hc=>?_) (fun hc=>?_)
      · refine have h := iteT hc h; tK<|tS<|ATodo.block<|tSR<|rM J J<|bndE h fun v6 e1 h=>ARun.qv (t_index J J J e1 J J) J<|ARun.qv (q_load_rptr_agg J J J) J<|n_alloc J J J J fun b7=>rA J J<|n_store_ptr J J J J .p0 J J<|rN<|tS<|tSR<|rM J J<|ARun.qv (q_load_ptr_all J J .p0 J) J<|bndE h fun v8 e2 h=>r_callp J (Q_EventFault_c e2) (CoL.refl _) J<|rA J J<|rN<|tSR<|rM J J<|ARun.qv (q_neq J J) J<|rN<|ATodo.cond_d J (fun hc=>?_) (fun hc=>?_)
        · refine have h := iteT hc h; tSR<|rM J J<|rA J J<|rN<|ATodo.ret<|have h := outL h hA1; ?_
          obtain rfl := Option.some.inj h
          exact ImpX.here ⟨_,.cons (.tmp _ _ J) .nil,J⟩
        · refine have h := iteF hc h; tK<|tS<|ATodo.block<|tS<|ATodo.cut (fun σ'=>∃ (c9 : Bool),Q_EventsFault_j1 l4 n5 v6 c9 = some z1 ∧ σ' = ⟨57,[(0,lE3 p0x0),(1,lE4 p1x0),(5,.mref b1),(7,.ptr b7 0),(13,lE4 p1x0),(14,I (p1x0.length : Int)),(15,I n5),(26,.bool c9)],[(b1,mE5 l4),(b7,.cells (cE1 v6))]⟩) ?_ ?_
          · refine ATodo.regionM (id := 10) (A := [0,1,3,7,7,23,63,127,7,511,1023,2047,4095]) 13 mixed J (by kernel_rfl) (by kernel_rfl)<|AM.qv (q_move J) J<|AM.qv (q_gtr J J) J<|AM.qv (q_move J) J<|AM.guard_dt J J J (fun hc=>?_) (fun hc=>?_)
            · exact have h := iteT hc h; AM.qv (q_move J) J<|AM.guard_yes J J J<|AM.qv (q_move J) J<|AM.guard_yes J J J<|AM.qv (q_subw J J) J<|AM.guard_yes J J J<|bndE h fun v10 e3 h=>AM.qv (t_index J J J e3 J J) J<|AM.guard_yes J J J<|AM.qv (q_load_rptr_agg J J J) J<|AM.guard_yes J J J<|AM.qv (q_load_ptr_all J J .p0 J) J<|AM.guard_yes J J J<|bndE h fun v11 e4 h=>AM.callp J (Q_EventOrder_c e4) (CoL.refl _) J<|AM.guard_yes J J J<|AM.qv (q_geq J J) J<|AM.qv (q_pick_t J J) J<|AM.qv (q_assign J) J<|AM.nil<|rN<|ATodo.stop<|ImpX.lq [1,0] ⟨decide ((0 : Int) ≤ v11),h,J⟩ J J
            · exact have h := iteF hc h; AM.guard_no J J J J<|AM.guard_no J J J J<|AM.guard_no J J J J<|AM.guard_no J J J J<|AM.guard_no J J J J<|AM.guard_no J J J J<|AM.guard_no J J J J<|AM.qv (q_pick_f J J) J<|AM.qv (q_assign J) J<|AM.nil<|rN<|ATodo.stop<|ImpX.lq [1,0] ⟨false,h,J⟩ J J
          · rintro σ' ⟨c9, h, rfl⟩
            unfold Q_EventsFault_j1 at h
            refine ATodo.cond J (fun hc=>?_) (fun hc=>?_)
            · refine have h := iteT hc h; tSR<|rA J J<|rN<|ATodo.ret<|have h := outL h hA1; ?_
              obtain rfl := Option.some.inj h
              exact ImpX.here ⟨_,.cons (.tmp _ _ J) .nil,J⟩
            · refine have h := iteFb hc h; tSR<|rF J J J<|rL J J .p1 J J<|rM J J<|rF J J J<|rL J J .p1 J J<|bndE h fun v12 e5 h=>ARun.qv (t_lookup (gk := AV.str) (gv := I) (M := l4) (key := v6.Hub) (Z := (0 : Int)) J J .p0 J J J e5 J) J<|ARun.qv (q_addw J J) J<|ARun.qv (q_neq J J) J<|rA J J<|rN<|ATodo.cond_d J (fun hc=>?_) (fun hc=>?_)
              · refine have h := iteT hc h; tSR<|rA J J<|rN<|ATodo.ret<|have h := outL h hA1; ?_
                obtain rfl := Option.some.inj h
                exact ImpX.here ⟨_,.cons (.tmp _ _ J) .nil,J⟩
              · refine have h := iteF hc h; tK<|ATodo.blk<|tR<|rM J J<|rF J J J<|rL J J .p1 J J<|rF J J J<|rL J J .p1 J J<|t_mapUpdate (gk := AV.str) (gv := I) (M := l4) (key := v6.Hub) (v := v6.No) J J J J .p0<|rN<|ATodo.blk<|tR<|ARun.qv (q_addw J J) J<|rM J J<|rN<|ATodo.stop<|?_
                obtain rfl := Option.some.inj h
                exact hJ1 _ _ J<|ImpX.lq [0] J J J
      · refine have h := iteF hc h; ATodo.exit J<|have h := outL h hA1; ?_
        unfold Q_EventsFault_k2 at h
        refine tS<|tSR<|rM J J<|ARun.qv (t_len_map (gk := AV.str) (gv := I) (M := l4) J .p0) J<|ARun.qv (q_gtr J J) J<|rN<|ATodo.cond_d J (fun hc=>?_) (fun hc=>?_)
        · refine have h := iteT hc h; tSR<|rA J J<|rN<|ATodo.ret<|?_
          obtain rfl := Option.some.inj h
          exact ImpX.here ⟨_,.cons (.tmp _ _ J) .nil,J⟩
        · refine have h := iteF hc h; tK<|tSR<|rA J J<|rN<|ATodo.ret<|?_
          obtain rfl := Option.some.inj h
          exact ImpX.here ⟨_,.cons (.tmp _ _ J) .nil,J⟩

theorem cmp_Or_Errno_c [GI : GTab] {p0x0 : List Int} {r : Int} (h : cmp_Or_Errno p0x0 = some r) : Pu Tryz.prog 15 [lE0 p0x0] (I r) := by
  unfold cmp_Or_Errno at h
  refine ACall.bodyN Tryz.func15 J Tryz.ntmps15 Tryz.results15 J J ?_
  refine tSR<|rA J J<|rN<|tSR<|rA J J<|rN<|tS<|tSR<|rM J J<|ARun.qv (t_len J) J<|rM J J<|rN<|ATodo.block<|ATodo.loopI (fun x : Int=>cmp_Or_Errno_b1 p0x0 x) (fun x σ'=>σ' = ⟨18,[(3,I (0 : Int)),(6,lE0 p0x0),(7,I (p0x0.length : Int)),(8,I x)],[]⟩) h ?_ ?_
  · exact ImpX.lq [] J J J
  · intro n2 z1 σ' J1 hmk h hJ1 hA1
    obtain rfl := hmk
    replace h : cmp_Or_Errno_b1 p0x0 n2 = some z1 := h
    unfold cmp_Or_Errno_b1 at h
    refine tSR<|ARun.qv (q_lss J J) J<|rN<|tS<|ATodo.cond_d J (fun hc=>?_) (fun hc=>?_)
    · refine have h := iteT hc h; tK<|tS<|ATodo.block<|tSR<|bndE h fun v3 e1 h=>ARun.qv (t_index J J J e1 J J) J<|ARun.qv (q_load_rptr J J J) J<|rA J J<|rN<|tSR<|rM J J<|rM J J<|ARun.qv (q_neq J J) J<|rN<|ATodo.cond_d J (fun hc=>?_) (fun hc=>?_)
      · refine have h := iteT hc h; tSR<|rM J J<|rA J J<|rN<|ATodo.ret<|have h := outL h hA1; ?_
        obtain rfl := Option.some.inj h
        exact ImpX.here ⟨_,.cons (.tmp _ _ J) .nil,J⟩
      · refine have h := iteF hc h; tK<|ATodo.blk<|tR<|ARun.qv (q_addw J J) J<|rM J J<|rN<|ATodo.stop<|?_
        obtain rfl := Option.some.inj h
        exact hJ1 _ _ J<|ImpX.lq [] J J J
    · refine have h := iteF hc h; ATodo.exit J<|have h := outL h hA1; tSR<|rM J J<|rA J J<|rN<|ATodo.ret<|?_
      obtain rfl := Option.some.inj h
      exact ImpX.here ⟨_,.cons (.tmp _ _ J) .nil,J⟩

theorem base_Key_c [GI : GTab] {p0x0 : Str} {r : Bool} (h : base_Key p0x0 = some r) : Pu Tryz.prog 63 [.str p0x0] (.bool r) := by
  unfold base_Key at h
  refine ACall.bodyN Tryz.func63 J Tryz.ntmps63 Tryz.results63 J J ?_
  refine tSR<|rA J J<|rN<|tS<|tS<|ATodo.cut (fun σ'=>∃ (c1 : Bool),base_Key_j1 p0x0 c1 = some r ∧ σ' = ⟨54,[(0,.str p0x0),(21,.bool c1)],[]⟩) ?_ ?_
  · refine tR<|rM J J<|ARun.qv (q_seq J J) J<|rM J J<|ARun.guard_df J J J (fun hc=>?_) (fun hc=>?_)
    · refine have h := iteF hc h; rM J J<|rY J J J<|ARun.qv (q_len_str J) J<|rY J J J<|ARun.qv (q_gtr J J) J<|rE J J J<|rM J J<|ARun.guard_df J J J (fun hc=>?_) (fun hc=>?_)
      · refine have h := iteF hc h; rM J J<|rY J J J<|bndE h fun c2 e1 h=>ARun.qv (t_index_str J J e1) J<|rY J J J<|ARun.qv (q_lss J J) J<|rE J J J<|rM J J<|ARun.guard_df J J J (fun hc=>?_) (fun hc=>?_)
        · exact have h := iteF hc h; rM J J<|rY J J J<|bndE h fun c3 e2 h=>ARun.qv (t_index_str J J e2) J<|rY J J J<|ARun.qv (q_gtr J J) J<|rE J J J<|rN<|ATodo.stop<|ImpX.lq [] ⟨decide ((122 : Int) < (c3.toNat : Int)),h,J⟩ J J
        · exact have h := iteT hc h; rG J J J J<|rG J J J J<|rT J J J<|rN<|ATodo.stop<|ImpX.lq [] ⟨true,h,J⟩ J J
      · exact have h := iteT hc h; rG J J J J<|rG J J J J<|rT J J J<|rM J J<|rG J J J J<|rG J J J J<|rG J J J J<|rT J J J<|rN<|ATodo.stop<|ImpX.lq [] ⟨true,h,J⟩ J J
    · exact have h := iteT hc h; rG J J J J<|rG J J J J<|rT J J J<|rM J J<|rG J J J J<|rG J J J J<|rG J J J J<|rT J J J<|rM J J<|rG J J J J<|rG J J J J<|rG J J J J<|rT J J J<|rN<|ATodo.stop<|ImpX.lq [] ⟨true,h,J⟩ J J
  · rintro σ' ⟨c1, h, rfl⟩
    unfold base_Key_j1 at h
    refine ATodo.cond J (fun hc=>?_) (fun hc=>?_)
    · refine have h := iteT hc h; tSR<|rA J J<|rN<|ATodo.ret<|?_
      obtain rfl := Option.some.inj h
      exact ImpX.here ⟨_,.cons (.tmp _ _ J) .nil,J⟩
    · refine have h := iteFb hc h; tK<|tS<|tSR<|rM J J<|ARun.qv (q_len_str J) J<|rM J J<|rN<|ATodo.block<|ATodo.loopI (fun x : Int=>base_Key_b1 p0x0 x) (fun x σ'=>σ' = ⟨54,[(0,.str p0x0),(23,I (p0x0.length : Int)),(24,I x)],[]⟩) h ?_ ?_
      · exact ImpX.lq [] J J J
      · intro n5 z1 σ' J1 hmk h hJ1 hA1
        obtain rfl := hmk
        replace h : base_Key_b1 p0x0 n5 = some z1 := h
        unfold base_Key_b1 at h
        refine tSR<|ARun.qv (q_lss J J) J<|rN<|tS<|ATodo.cond_d J (fun hc=>?_) (fun hc=>?_)
        · refine have h := iteT hc h; tK<|tS<|ATodo.block<|tSR<|rM J J<|rA J J<|rN<|tSR<|rM J J<|rM J J<|bndE h fun c6 e3 h=>ARun.qv (t_index_str J J e3) J<|rA J J<|rN<|tS<|ATodo.cut (fun σ'=>∃ (c7 : Bool),base_Key_j2 n5 c7 = some z1 ∧ σ' = ⟨54,[(0,.str p0x0),(23,I (p0x0.length : Int)),(24,I n5),(52,.bool c7)],[]⟩) ?_ ?_
          · refine tR<|rM J J<|ARun.qv (q_geq J J) J<|rM J J<|ARun.guard_dt J J J (fun hc=>?_) (fun hc=>?_)
            · rw [if_pos hc] at h
              refine rM J J<|rY J J J<|ARun.qv (q_leq J J) J<|rT J J J<|rM J J<|ARun.guard_df J J J (fun hc=>?_) (fun hc=>?_)
              · rw [if_neg hc] at h
                refine rM J J<|rY J J J<|ARun.qv (q_geq J J) J<|rY J J J<|rM J J<|ARun.guard_dt J J J (fun hc=>?_) (fun hc=>?_)
                · rw [if_pos hc] at h
                  refine rM J J<|rY J J J<|ARun.qv (q_leq J J) J<|rY J J J<|rT J J J<|rE J J J<|rM J J<|ARun.guard_df J J J (fun hc=>?_) (fun hc=>?_)
                  · rw [if_neg hc] at h
                    refine rM J J<|rY J J J<|ARun.qv (q_eql J J) J<|rE J J J<|rM J J<|ARun.guard_df J J J (fun hc=>?_) (fun hc=>?_)
                    · rw [if_neg hc] at h
                      exact rM J J<|rY J J J<|ARun.qv (q_eql J J) J<|rE J J J<|ARun.qv (q_not_d J) J<|rN<|ATodo.stop<|ImpX.lq [] ⟨decide (¬ ((c6.toNat : Int) = (95 : Int))),h,J⟩ J J
                    · rw [if_pos hc] at h
                      exact rG J J J J<|rT J J J<|ARun.qv (q_not J) J<|rN<|ATodo.stop<|ImpX.lq [] ⟨!true,h,J⟩ J J
                  · rw [if_pos hc] at h
                    exact rG J J J J<|rT J J J<|rM J J<|rG J J J J<|rG J J J J<|rT J J J<|ARun.qv (q_not J) J<|rN<|ATodo.stop<|ImpX.lq [] ⟨!true,h,J⟩ J J
                · rw [if_neg hc] at h
                  refine rG J J J J<|rY J J J<|rE J J J<|rE J J J<|rM J J<|rY J J J<|rM J J<|rY J J J<|ARun.qv (q_eql J J) J<|rE J J J<|rM J J<|ARun.guard_df J J J (fun hc=>?_) (fun hc=>?_)
                  · rw [if_neg hc] at h
                    exact rM J J<|rY J J J<|ARun.qv (q_eql J J) J<|rE J J J<|ARun.qv (q_not_d J) J<|rN<|ATodo.stop<|ImpX.lq [] ⟨decide (¬ ((c6.toNat : Int) = (95 : Int))),h,J⟩ J J
                  · rw [if_pos hc] at h
                    exact rG J J J J<|rT J J J<|ARun.qv (q_not J) J<|rN<|ATodo.stop<|ImpX.lq [] ⟨!true,h,J⟩ J J
              · rw [if_pos hc] at h
                exact rG J J J J<|rG J J J J<|ARun.guard_und J J J<|ARun.guard_und J J J<|rG J J J J<|rT J J J<|rM J J<|rG J J J J<|rG J J J J<|rT J J J<|rM J J<|rG J J J J<|rG J J J J<|rT J J J<|ARun.qv (q_not J) J<|rN<|ATodo.stop<|ImpX.lq [] ⟨!true,h,J⟩ J J
            · rw [if_neg hc] at h
              refine rG J J J J<|rE J J J<|rM J J<|rY J J J<|rM J J<|rY J J J<|ARun.qv (q_geq J J) J<|rY J J J<|rM J J<|ARun.guard_dt J J J (fun hc=>?_) (fun hc=>?_)
              · rw [if_pos hc] at h
                refine rM J J<|rY J J J<|ARun.qv (q_leq J J) J<|rY J J J<|rT J J J<|rE J J J<|rM J J<|ARun.guard_df J J J (fun hc=>?_) (fun hc=>?_)
                · rw [if_neg hc] at h
                  refine rM J J<|rY J J J<|ARun.qv (q_eql J J) J<|rE J J J<|rM J J<|ARun.guard_df J J J (fun hc=>?_) (fun hc=>?_)
                  · rw [if_neg hc] at h
                    exact rM J J<|rY J J J<|ARun.qv (q_eql J J) J<|rE J J J<|ARun.qv (q_not_d J) J<|rN<|ATodo.stop<|ImpX.lq [] ⟨decide (¬ ((c6.toNat : Int) = (95 : Int))),h,J⟩ J J
                  · rw [if_pos hc] at h
                    exact rG J J J J<|rT J J J<|ARun.qv (q_not J) J<|rN<|ATodo.stop<|ImpX.lq [] ⟨!true,h,J⟩ J J
                · rw [if_pos hc] at h
                  exact rG J J J J<|rT J J J<|rM J J<|rG J J J J<|rG J J J J<|rT J J J<|ARun.qv (q_not J) J<|rN<|ATodo.stop<|ImpX.lq [] ⟨!true,h,J⟩ J J
              · rw [if_neg hc] at h
                refine rG J J J J<|rY J J J<|rE J J J<|rE J J J<|rM J J<|rY J J J<|rM J J<|rY J J J<|ARun.qv (q_eql J J) J<|rE J J J<|rM J J<|ARun.guard_df J J J (fun hc=>?_) (fun hc=>?_)
                · rw [if_neg hc] at h
                  exact rM J J<|rY J J J<|ARun.qv (q_eql J J) J<|rE J J J<|ARun.qv (q_not_d J) J<|rN<|ATodo.stop<|ImpX.lq [] ⟨decide (¬ ((c6.toNat : Int) = (95 : Int))),h,J⟩ J J
                · rw [if_pos hc] at h
                  exact rG J J J J<|rT J J J<|ARun.qv (q_not J) J<|rN<|ATodo.stop<|ImpX.lq [] ⟨!true,h,J⟩ J J
          · rintro σ' ⟨c7, h, rfl⟩
            unfold base_Key_j2 at h
            refine ATodo.cond J (fun hc=>?_) (fun hc=>?_)
            · refine have h := iteT hc h; tSR<|rA J J<|rN<|ATodo.ret<|have h := outL h hA1; ?_
              obtain rfl := Option.some.inj h
              exact ImpX.here ⟨_,.cons (.tmp _ _ J) .nil,J⟩
            · refine have h := iteFb hc h; tK<|ATodo.blk<|tR<|ARun.qv (q_addw J J) J<|rM J J<|rN<|ATodo.stop<|?_
              obtain rfl := Option.some.inj h
              exact hJ1 _ _ J<|ImpX.lq [] J J J
        · refine have h := iteF hc h; ATodo.exit J<|have h := outL h hA1; tSR<|rA J J<|rN<|ATodo.ret<|?_
          obtain rfl := Option.some.inj h
          exact ImpX.here ⟨_,.cons (.tmp _ _ J) .nil,J⟩

theorem base_Out_c [GI : GTab] {p0x0 : Int} {p1x0 : Int} {p2x0 : Int} {r : Bool} (h : base_Out p0x0 p1x0 p2x0 = r) : Pu Tryz.prog 96 [I p0x0,I p1x0,I p2x0] (.bool r) := by
  unfold base_Out at h
  refine ACall.bodyN Tryz.func96 J Tryz.ntmps96 Tryz.results96 J J ?_
  refine tSR<|rA J J<|rN<|tS<|ATodo.cut (fun σ'=>∃ (c1 : Bool),base_Out_j1 c1 = r ∧ σ' = ⟨15,[(6,.bool c1)],[]⟩) ?_ ?_
  · refine tR<|rM J J<|rM J J<|ARun.qv (q_lss J J) J<|rM J J<|ARun.guard_df J J J (fun hc=>?_) (fun hc=>?_)
    · rw [orFd hc] at h
      exact rM J J<|rY J J J<|rM J J<|rY J J J<|ARun.qv (q_gtr J J) J<|rE J J J<|rA J J<|rN<|ATodo.stop<|ImpX.lq [] ⟨decide (p2x0 < p0x0),h,J⟩ J J
    · rw [orTd hc] at h
      exact rG J J J J<|rG J J J J<|rT J J J<|rA J J<|rN<|ATodo.stop<|ImpX.lq [] ⟨true,h,J⟩ J J
  · rintro σ' ⟨c1, h, rfl⟩
    unfold base_Out_j1 at h
    refine ATodo.ret<|?_
    obtain rfl := h
    exact ImpX.here ⟨_,.cons (.tmp _ _ J) .nil,J⟩

theorem device_isPrefix_c {p0x0 : Str} {r : Bool} (h : device_isPrefix p0x0 = some r) : Pu Tryz.prog 156 [.str p0x0] (.bool r) := by
  unfold device_isPrefix at h
  refine ACall.bodyN Tryz.func156 J Tryz.ntmps156 Tryz.results156 J J ?_
  refine tSR<|rA J J<|rN<|tS<|ATodo.cut (fun σ'=>∃ (c1 : Bool),device_isPrefix_j1 c1 = some r ∧ σ' = ⟨12,[(2,.bool c1)],[]⟩) ?_ ?_
  · refine tR<|rM J J<|ARun.qv (q_len_str J) J<|r_callp J (base_Out_c J) (CoL.refl _) J<|ARun.qv (q_not J) J<|rM J J<|ARun.guard J J J (fun hc=>?_) (fun hc=>?_)
    · exact have h := iteT hc h; rM J J<|rY J J J<|bndE h fun v2 e1 h=>r_callp J (strings_Trim_c e1) (CoL.refl _) J<|rY J J J<|ARun.qv (q_seq J J) J<|rT J J J<|rA J J<|rN<|ATodo.stop<|ImpX.lq [] ⟨decide (v2 = ([] : Str)),h,J⟩ J J
    · exact have h := iteFb hc h; rG J J J J<|rG J J J J<|rE J J J<|rA J J<|rN<|ATodo.stop<|ImpX.lq [] ⟨false,h,J⟩ J J
  · rintro σ' ⟨c1, h, rfl⟩
    unfold device_isPrefix_j1 at h
    refine ATodo.ret<|?_
    obtain rfl := Option.some.inj h
    exact ImpX.here ⟨_,.cons (.tmp _ _ J) .nil,J⟩

theorem device_CheckModels_1x_c [GI : GTab] {p0x0 : Model} {p1x0 : Model} {r : Bool} (h : device_CheckModels_1x p0x0 p1x0 = r) : Pu Tryz.prog 157 [Model.av p0x0,.rptr [.str p1x0.Key,.str p1x0.Prefix,lE2 p1x0.Props]] (.bool r) := by
  unfold device_CheckModels_1x at h
  refine ACall.bodyN Tryz.func157 J Tryz.ntmps157 Tryz.results157 J J ?_
  refine tSR<|n_box J J J J fun b1=>rA J J<|rN<|tSR<|rF J J J<|rL J J .p0 J J<|ARun.qv (n_field_rptr J J) J<|ARun.qv (q_load_rptr J J J) J<|ARun.qv (q_seq J J) J<|rA J J<|rN<|ATodo.ret<|?_
  obtain rfl := h
  exact ImpX.here ⟨_,.cons (.tmp _ _ J) .nil,J⟩

theorem base_Dotted_c {p0x0 : Str} {p1x0 : Int} {r : Bool} (h : base_Dotted p0x0 p1x0 = some r) : Pu Tryz.prog 277 [.str p0x0,I p1x0] (.bool r) := by
  unfold base_Dotted at h
  refine ACall.bodyN Tryz.func277 J Tryz.ntmps277 Tryz.results277 J J ?_
  refine tSR<|rA J J<|rN<|tS<|tSR<|rA J J<|rN<|ATodo.block<|ATodo.loopI (fun x : Str × Int=>base_Dotted_b1 p1x0 x.1 x.2) (fun x σ'=>σ' = ⟨26,[(0,.str x.1),(1,I p1x0),(5,I x.2)],[]⟩) h ?_ ?_
  · exact ImpX.lq [] J J J
  · intro x z1 σ' J1 hmk h hJ1 hA1
    obtain ⟨q3, n4⟩ := x
    obtain rfl := hmk
    replace h : base_Dotted_b1 p1x0 q3 n4 = some z1 := h
    unfold base_Dotted_b1 at h
    refine tS<|tSR<|rM J J<|rM J J<|ARun.qv (q_lss J J) J<|rN<|ATodo.cond_d J (fun hc=>?_) (fun hc=>?_)
    · refine have h := iteT hc h; tK<|tS<|ATodo.block<|tSR<|rM J J<|bndE h fun v5 e1 h=>r_callp J (strings_Cut_c e1) (CoL.refl _) J<|rM J J<|rX J J J<|rX J J J<|rX J J J<|rA J J<|rA J J<|rA J J<|rN<|tS<|tSR<|rM J J<|bndE h fun v6 e2 h=>r_callp J (base_Key_c e2) (CoL.refl _) J<|ARun.qv (q_not J) J<|rN<|ATodo.cond J (fun hc=>?_) (fun hc=>?_)
      · refine have h := iteT hc h; tSR<|rA J J<|rN<|ATodo.ret<|have h := outL h hA1; ?_
        obtain rfl := Option.some.inj h
        exact ImpX.here ⟨_,.cons (.tmp _ _ J) .nil,J⟩
      · refine have h := iteFb hc h; tK<|tS<|tSR<|rM J J<|ARun.qv (q_not J) J<|rN<|ATodo.cond J (fun hc=>?_) (fun hc=>?_)
        · refine have h := iteT hc h; tSR<|rA J J<|rN<|ATodo.ret<|have h := outL h hA1; ?_
          obtain rfl := Option.some.inj h
          exact ImpX.here ⟨_,.cons (.tmp _ _ J) .nil,J⟩
        · refine have h := iteFb hc h; tK<|tR<|rM J J<|rA J J<|rN<|ATodo.blk<|tR<|rM J J<|ARun.qv (q_addw J J) J<|rA J J<|rN<|ATodo.stop<|?_
          obtain rfl := Option.some.inj h
          exact hJ1 _ _ J<|ImpX.lq [] J J J
    · refine have h := iteF hc h; ATodo.exit J<|have h := outL h hA1; tSR<|rA J J<|rN<|ATodo.ret<|?_
      obtain rfl := Option.some.inj h
      exact ImpX.here ⟨_,.cons (.tmp _ _ J) .nil,J⟩

theorem item_Property_c {p0x0 : Str} {r : Bool} (h : item_Property p0x0 = some r) : Pu Tryz.prog 216 [.str p0x0] (.bool r) := by
  unfold item_Property at h
  refine ACall.bodyN Tryz.func216 J Tryz.ntmps216 Tryz.results216 J J ?_
  refine tSR<|rA J J<|rN<|tS<|ATodo.cut (fun σ'=>∃ (c1 : Bool),item_Property_j1 c1 = some r ∧ σ' = ⟨10,[(2,.bool c1)],[]⟩) ?_ ?_
  · refine tR<|rM J J<|ARun.qv (q_len_str J) J<|ARun.qv (q_leq J J) J<|rM J J<|ARun.guard_dt J J J (fun hc=>?_) (fun hc=>?_)
    · exact have h := iteT hc h; rM J J<|rY J J J<|bndE h fun v2 e1 h=>r_callp J (base_Dotted_c e1) (CoL.refl _) J<|rT J J J<|rA J J<|rN<|ATodo.stop<|ImpX.lq [] ⟨v2,h,J⟩ J J
    · exact have h := iteF hc h; rG J J J J<|rE J J J<|rA J J<|rN<|ATodo.stop<|ImpX.lq [] ⟨false,h,J⟩ J J
  · rintro σ' ⟨c1, h, rfl⟩
    unfold item_Property_j1 at h
    refine ATodo.ret<|?_
    obtain rfl := Option.some.inj h
    exact ImpX.here ⟨_,.cons (.tmp _ _ J) .nil,J⟩

theorem device_typesFault_c {p0x0 : List PropType} {r : Int} (h : device_typesFault p0x0 = some r) : Pu Tryz.prog 158 [lE2 p0x0] (I r) := by
  unfold device_typesFault at h
  refine ACall.bodyN Tryz.func158 J Tryz.ntmps158 Tryz.results158 J J ?_
  refine tSR<|rA J J<|rN<|tS<|tSR<|rM J J<|ARun.qv (t_len J) J<|rM J J<|rN<|ATodo.block<|ATodo.loopI (fun x : Int=>device_typesFault_b1 p0x0 x) (fun x σ'=>σ' = ⟨67,[(0,lE2 p0x0),(6,lE2 p0x0),(7,I (p0x0.length : Int)),(8,I x)],[]⟩) h ?_ ?_
  · exact ImpX.lq [] J J J
  · intro n2 z1 σ' J1 hmk h hJ1 hA1
    obtain rfl := hmk
    replace h : device_typesFault_b1 p0x0 n2 = some z1 := h
    unfold device_typesFault_b1 at h
    refine tSR<|ARun.qv (q_lss J J) J<|rN<|tS<|ATodo.cond_d J (fun hc=>?_) (fun hc=>?_)
    · refine have h := iteT hc h; tK<|tS<|ATodo.block<|tSR<|rM J J<|bndE h fun v3 e1 h=>ARun.qv (t_index J J J e1 J J) J<|ARun.qv (q_load_rptr_agg J J J) J<|n_alloc J J J J fun b4=>rA J J<|n_store_ptr J J J J .p0 J J<|rN<|tSR<|rF J J J<|rL J J .p0 J J<|ARun.qv (q_eql J J) J<|rA J J<|rN<|ATodo.block<|tSR<|rF J J J<|rL J J .p0 J J<|bndE h fun v5 e2 h=>r_callp J (item_Property_c e2) (CoL.refl _) J<|ARun.qv (q_not J) J<|rA J J<|rN<|ATodo.cond J (fun hc=>?_) (fun hc=>?_)
      · refine have h := iteT hc h; tSR<|rA J J<|rN<|ATodo.ret<|have h := outL h hA1; ?_
        obtain rfl := Option.some.inj h
        exact ImpX.here ⟨_,.cons (.tmp _ _ J) .nil,J⟩
      · refine have h := iteFb hc h; tS<|ATodo.cut (fun σ'=>∃ (c6 : Bool),device_typesFault_j1 n2 v3 c6 = some z1 ∧ σ' = ⟨67,[(0,lE2 p0x0),(4,.ptr b4 0),(5,.bool (decide (v3.Kind = (2 : Int)))),(6,lE2 p0x0),(7,I (p0x0.length : Int)),(8,I n2),(21,.bool c6)],[(b4,.cells (cE0 v3))]⟩) ?_ ?_
        · refine ATodo.regionM (id := 7) (A := [0,1,3,7,15,7,7,71,231,487,999,2047,4095,8191]) 14 mixed J (by kernel_rfl) (by kernel_rfl)<|AM.qv (q_move J) J<|AM.qv (q_gtr J J) J<|AM.qv (q_move J) J<|AM.guard_dt J J J (fun hc=>?_) (fun hc=>?_)
          · exact have h := iteT hc h; AM.qv (n_field_ptr J J) J<|AM.guard_yes J J J<|AM.qv (q_load_ptr J J .p0 J) J<|AM.guard_yes J J J<|AM.qv (q_move J) J<|AM.guard_yes J J J<|AM.qv (q_move J) J<|AM.guard_yes J J J<|AM.qv (q_subw J J) J<|AM.guard_yes J J J<|bndE h fun v7 e3 h=>AM.qv (t_index J J J e3 J J) J<|AM.guard_yes J J J<|AM.qv (n_field_rptr J J) J<|AM.guard_yes J J J<|AM.qv (q_load_rptr J J J) J<|AM.guard_yes J J J<|AM.qv (t_sleq J J) J<|AM.qv (q_pick_t J J) J<|AM.qv (q_assign J) J<|AM.nil<|rN<|ATodo.stop<|ImpX.lq [0] ⟨Op.bytesLess v3.Name v7.Name || v3.Name == v7.Name,h,J⟩ J J
          · exact have h := iteF hc h; AM.guard_no J J J J<|AM.guard_no J J J J<|AM.guard_no J J J J<|AM.guard_no J J J J<|AM.guard_no J J J J<|AM.guard_no J J J J<|AM.guard_no J J J J<|AM.guard_no J J J J<|AM.qv (q_pick_f J J) J<|AM.qv (q_assign J) J<|AM.nil<|rN<|ATodo.stop<|ImpX.lq [0] ⟨false,h,J⟩ J J
        · rintro σ' ⟨c6, h, rfl⟩
          unfold device_typesFault_j1 at h
          refine ATodo.cond J (fun hc=>?_) (fun hc=>?_)
          · refine have h := iteT hc h; tSR<|rA J J<|rN<|ATodo.ret<|have h := outL h hA1; ?_
            obtain rfl := Option.some.inj h
            exact ImpX.here ⟨_,.cons (.tmp _ _ J) .nil,J⟩
          · refine have h := iteFb hc h; tSR<|rF J J J<|rL J J .p0 J J<|r_callp J (base_Out_c J) (CoL.refl _) J<|rA J J<|rN<|ATodo.cond J (fun hc=>?_) (fun hc=>?_)
            · refine have h := iteT hc h; tSR<|rA J J<|rN<|ATodo.ret<|have h := outL h hA1; ?_
              obtain rfl := Option.some.inj h
              exact ImpX.here ⟨_,.cons (.tmp _ _ J) .nil,J⟩
            · refine have h := iteFb hc h; tS<|ATodo.cut (fun σ'=>∃ (c8 : Bool),device_typesFault_j2 n2 v3 c8 = some z1 ∧ σ' = ⟨67,[(0,lE2 p0x0),(4,.ptr b4 0),(5,.bool (decide (v3.Kind = (2 : Int)))),(6,lE2 p0x0),(7,I (p0x0.length : Int)),(8,I n2),(39,.bool c8)],[(b4,.cells (cE0 v3))]⟩) ?_ ?_
              · refine tR<|rM J J<|rM J J<|ARun.guard_dt J J J (fun hc=>?_) (fun hc=>?_)
                · rw [andTd hc] at h
                  refine rF J J J<|rY J J J<|rL J J .p0 J J<|rY J J J<|rF J J J<|rY J J J<|rL J J .p0 J J<|rY J J J<|r_callp J (base_Out_c J) (CoL.refl _) J<|rY J J J<|rM J J<|ARun.guard J J J (fun hc=>?_) (fun hc=>?_)
                  · rw [orFb hc] at h
                    exact rF J J J<|rY J J J<|rL J J .p0 J J<|rY J J J<|ARun.qv (q_gtr J J) J<|rY J J J<|rE J J J<|rT J J J<|rA J J<|rN<|ATodo.stop<|ImpX.lq [0] ⟨decide ((1000000000 : Int) < v3.High),h,J⟩ J J
                  · rw [orTb hc] at h
                    exact rG J J J J<|rG J J J J<|rY J J J<|rT J J J<|rT J J J<|rA J J<|rN<|ATodo.stop<|ImpX.lq [0] ⟨true,h,J⟩ J J
                · rw [andFd hc] at h
                  exact rG J J J J<|rG J J J J<|rG J J J J<|rG J J J J<|rG J J J J<|ARun.guard_und J J J<|ARun.guard_und J J J<|ARun.guard_und J J J<|rG J J J J<|rE J J J<|rA J J<|rN<|ATodo.stop<|ImpX.lq [0] ⟨false,h,J⟩ J J
              · rintro σ' ⟨c8, h, rfl⟩
                unfold device_typesFault_j2 at h
                refine ATodo.cond J (fun hc=>?_) (fun hc=>?_)
                · refine have h := iteT hc h; tSR<|rA J J<|rN<|ATodo.ret<|have h := outL h hA1; ?_
                  obtain rfl := Option.some.inj h
                  exact ImpX.here ⟨_,.cons (.tmp _ _ J) .nil,J⟩
                · refine have h := iteFb hc h; tS<|ATodo.cut (fun σ'=>∃ (c9 : Bool),device_typesFault_j3 n2 c9 = some z1 ∧ σ' = ⟨67,[(0,lE2 p0x0),(6,lE2 p0x0),(7,I (p0x0.length : Int)),(8,I n2),(53,.bool c9)],[]⟩) ?_ ?_
                  · refine tR<|rM J J<|ARun.qv (q_not_d J) J<|rM J J<|ARun.guard_dt J J J (fun hc=>?_) (fun hc=>?_)
                    · rw [andTd hc] at h
                      refine rF J J J<|rY J J J<|rL J J .p0 J J<|rY J J J<|ARun.qv (q_neq J J) J<|rY J J J<|rM J J<|ARun.guard_df J J J (fun hc=>?_) (fun hc=>?_)
                      · rw [orFd hc] at h
                        exact rF J J J<|rY J J J<|rL J J .p0 J J<|rY J J J<|ARun.qv (q_neq J J) J<|rY J J J<|rE J J J<|rT J J J<|rA J J<|rN<|ATodo.stop<|ImpX.lq [] ⟨decide (v3.High ≠ (0 : Int)),h,J⟩ J J
                      · rw [orTd hc] at h
                        exact rG J J J J<|rG J J J J<|rY J J J<|rT J J J<|rT J J J<|rA J J<|rN<|ATodo.stop<|ImpX.lq [] ⟨true,h,J⟩ J J
                    · rw [andFd hc] at h
                      exact rG J J J J<|rG J J J J<|rG J J J J<|ARun.guard_und J J J<|ARun.guard_und J J J<|ARun.guard_und J J J<|rG J J J J<|rE J J J<|rA J J<|rN<|ATodo.stop<|ImpX.lq [] ⟨false,h,J⟩ J J
                  · rintro σ' ⟨c9, h, rfl⟩
                    unfold device_typesFault_j3 at h
                    refine ATodo.cond J (fun hc=>?_) (fun hc=>?_)
                    · refine have h := iteT hc h; tSR<|rA J J<|rN<|ATodo.ret<|have h := outL h hA1; ?_
                      obtain rfl := Option.some.inj h
                      exact ImpX.here ⟨_,.cons (.tmp _ _ J) .nil,J⟩
                    · refine have h := iteFb hc h; tK<|ATodo.blk<|ATodo.blk<|tR<|ARun.qv (q_addw J J) J<|rM J J<|rN<|ATodo.stop<|?_
                      obtain rfl := Option.some.inj h
                      exact hJ1 _ _ J<|ImpX.lq [] J J J
    · refine have h := iteF hc h; ATodo.exit J<|have h := outL h hA1; tSR<|rA J J<|rN<|ATodo.ret<|?_
      obtain rfl := Option.some.inj h
      exact ImpX.here ⟨_,.cons (.tmp _ _ J) .nil,J⟩

theorem device_CheckModels_c {p0x0 : List Model} {r : Int} (h : device_CheckModels p0x0 = some r) : Pu Tryz.prog 87 [lE3 p0x0] (I r) := by
  unfold device_CheckModels at h
  refine ACall.bodyN Tryz.func87 J Tryz.ntmps87 Tryz.results87 J J ?_
  refine tSR<|rA J J<|rN<|tS<|tSR<|rM J J<|ARun.qv (t_len J) J<|ARun.qv (q_gtr J J) J<|rN<|ATodo.cond_d J (fun hc=>?_) (fun hc=>?_)
  · refine have h := iteT hc h; tSR<|rA J J<|rN<|ATodo.ret<|?_
    obtain rfl := Option.some.inj h
    exact ImpX.here ⟨_,.cons (.tmp _ _ J) .nil,J⟩
  · refine have h := iteF hc h; tK<|tS<|tSR<|rM J J<|ARun.qv (t_len J) J<|rM J J<|rN<|ATodo.block<|ATodo.loopI (fun x : Int=>device_CheckModels_b1 p0x0 x) (fun x σ'=>σ' = ⟨58,[(0,lE3 p0x0),(9,lE3 p0x0),(10,I (p0x0.length : Int)),(11,I x)],[]⟩) h ?_ ?_
    · exact ImpX.lq [] J J J
    · intro n2 z1 σ' J1 hmk h hJ1 hA1
      obtain rfl := hmk
      replace h : device_CheckModels_b1 p0x0 n2 = some z1 := h
      unfold device_CheckModels_b1 at h
      refine tSR<|ARun.qv (q_lss J J) J<|rN<|tS<|ATodo.cond_d J (fun hc=>?_) (fun hc=>?_)
      · refine have h := iteT hc h; tK<|tS<|ATodo.block<|tSR<|rM J J<|bndE h fun v3 e1 h=>ARun.qv (t_index J J J e1 J J) J<|ARun.qv (q_load_rptr_agg J J J) J<|n_alloc J J J J fun b4=>rA J J<|n_store_ptr J J J J .p0 J J<|rN<|tS<|ATodo.block<|tSR<|rF J J J<|rL J J .p0 J J<|bndE h fun v5 e2 h=>r_callp J (base_Key_c e2) (CoL.refl _) J<|ARun.qv (q_not J) J<|rA J J<|rN<|ATodo.cond J (fun hc=>?_) (fun hc=>?_)
        · refine have h := iteT hc h; tSR<|rA J J<|rN<|ATodo.ret<|have h := outL h hA1; ?_
          obtain rfl := Option.some.inj h
          exact ImpX.here ⟨_,.cons (.tmp _ _ J) .nil,J⟩
        · refine have h := iteFb hc h; tS<|ATodo.cut (fun σ'=>∃ (c6 : Bool),device_CheckModels_j1 p0x0 n2 v3 c6 = some z1 ∧ σ' = ⟨58,[(0,lE3 p0x0),(3,I n2),(4,.ptr b4 0),(9,lE3 p0x0),(10,I (p0x0.length : Int)),(11,I n2),(21,.bool c6)],[(b4,.cells [.str v3.Key,.str v3.Prefix,lE2 v3.Props])]⟩) ?_ ?_
          · refine ATodo.regionM (id := 8) (A := [0,1,3,7,15,7,7,71,231,487,999,2047,4095,8191]) 14 mixed J (by kernel_rfl) (by kernel_rfl)<|AM.qv (q_move J) J<|AM.qv (q_gtr J J) J<|AM.qv (q_move J) J<|AM.guard_dt J J J (fun hc=>?_) (fun hc=>?_)
            · exact have h := iteT hc h; AM.qv (n_field_ptr J J) J<|AM.guard_yes J J J<|AM.qv (q_load_ptr J J .p0 J) J<|AM.guard_yes J J J<|AM.qv (q_move J) J<|AM.guard_yes J J J<|AM.qv (q_move J) J<|AM.guard_yes J J J<|AM.qv (q_subw J J) J<|AM.guard_yes J J J<|bndE h fun v7 e3 h=>AM.qv (t_index J J J e3 J J) J<|AM.guard_yes J J J<|AM.qv (n_field_rptr J J) J<|AM.guard_yes J J J<|AM.qv (q_load_rptr J J J) J<|AM.guard_yes J J J<|AM.qv (t_sleq J J) J<|AM.qv (q_pick_t J J) J<|AM.qv (q_assign J) J<|AM.nil<|rN<|ATodo.stop<|ImpX.lq [0] ⟨Op.bytesLess v3.Key v7.Key || v3.Key == v7.Key,h,J⟩ J J
            · exact have h := iteF hc h; AM.guard_no J J J J<|AM.guard_no J J J J<|AM.guard_no J J J J<|AM.guard_no J J J J<|AM.guard_no J J J J<|AM.guard_no J J J J<|AM.guard_no J J J J<|AM.guard_no J J J J<|AM.qv (q_pick_f J J) J<|AM.qv (q_assign J) J<|AM.nil<|rN<|ATodo.stop<|ImpX.lq [0] ⟨false,h,J⟩ J J
          · rintro σ' ⟨c6, h, rfl⟩
            unfold device_CheckModels_j1 at h
            refine ATodo.cond J (fun hc=>?_) (fun hc=>?_)
            · refine have h := iteT hc h; tSR<|rA J J<|rN<|ATodo.ret<|have h := outL h hA1; ?_
              obtain rfl := Option.some.inj h
              exact ImpX.here ⟨_,.cons (.tmp _ _ J) .nil,J⟩
            · refine have h := iteFb hc h; tSR<|rF J J J<|rL J J .p0 J J<|bndE h fun v8 e4 h=>r_callp J (device_isPrefix_c e4) (CoL.refl _) J<|ARun.qv (q_not J) J<|rA J J<|rN<|ATodo.cond J (fun hc=>?_) (fun hc=>?_)
              · refine have h := iteT hc h; tSR<|rA J J<|rN<|ATodo.ret<|have h := outL h hA1; ?_
                obtain rfl := Option.some.inj h
                exact ImpX.here ⟨_,.cons (.tmp _ _ J) .nil,J⟩
              · refine have h := iteFb hc h; tSR<|rM J J<|rM J J<|bndE h fun l9 e5 h=>ARun.qv (t_slice_list J J .none (.some _ _ _ J) J J e5) J<|ARun.qv (q_makeFunc J) J<|bndE h fun v10 e6 h=>r_callpB J (slices_ContainsFunc_Model_Model_c (fun e=>device_CheckModels_1x_c (Option.some.inj e)) e6) (.cons (.co (.refl _)) (.cons (.funcL _ _ _ (.cons (.boxL _ _ _ .p0 (.cons (.co (.refl _)) (.cons (.co (.refl _)) (.cons (.co (.refl _)) .nil)))) .nil)) .nil)) J J<|rA J J<|rN<|ATodo.cond J (fun hc=>?_) (fun hc=>?_)
                · refine have h := iteT hc h; tSR<|rA J J<|rN<|ATodo.ret<|have h := outL h hA1; ?_
                  obtain rfl := Option.some.inj h
                  exact ImpX.here ⟨_,.cons (.tmp _ _ J) .nil,J⟩
                · refine have h := iteFb hc h; tSR<|rF J J J<|rL J J .p0 J J<|ARun.qv (t_len J) J<|ARun.qv (q_gtr J J) J<|rA J J<|rN<|ATodo.cond_d J (fun hc=>?_) (fun hc=>?_)
                  · refine have h := iteT hc h; tSR<|rA J J<|rN<|ATodo.ret<|have h := outL h hA1; ?_
                    obtain rfl := Option.some.inj h
                    exact ImpX.here ⟨_,.cons (.tmp _ _ J) .nil,J⟩
                  · refine have h := iteF hc h; tK<|ATodo.blk<|tSR<|rF J J J<|rL J J .p0 J J<|bndE h fun v11 e7 h=>r_callp J (device_typesFault_c e7) (CoL.refl _) J<|rA J J<|rN<|tSR<|rM J J<|ARun.qv (q_neq J J) J<|rN<|ATodo.cond_d J (fun hc=>?_) (fun hc=>?_)
                    · refine have h := iteT hc h; tSR<|rM J J<|rA J J<|rN<|ATodo.ret<|have h := outL h hA1; ?_
                      obtain rfl := Option.some.inj h
                      exact ImpX.here ⟨_,.cons (.tmp _ _ J) .nil,J⟩
                    · refine have h := iteF hc h; tK<|ATodo.blk<|tR<|ARun.qv (q_addw J J) J<|rM J J<|rN<|ATodo.stop<|?_
                      obtain rfl := Option.some.inj h
                      exact hJ1 _ _ J<|ImpX.lq [] J J J
      · refine have h := iteF hc h; ATodo.exit J<|have h := outL h hA1; tSR<|rA J J<|rN<|ATodo.ret<|?_
        obtain rfl := Option.some.inj h
        exact ImpX.here ⟨_,.cons (.tmp _ _ J) .nil,J⟩

theorem base_Moment_c [GI : GTab] {p0x0 : Int} {r : Bool} (h : base_Moment p0x0 = r) : Pu Tryz.prog 67 [I p0x0] (.bool r) := by
  unfold base_Moment at h
  refine ACall.bodyN Tryz.func67 J Tryz.ntmps67 Tryz.results67 J J ?_
  refine tSR<|rA J J<|rN<|tSR<|rM J J<|r_callp J (base_Out_c J) (CoL.refl _) J<|ARun.qv (q_not J) J<|rA J J<|rN<|ATodo.ret<|?_
  obtain rfl := h
  exact ImpX.here ⟨_,.cons (.tmp _ _ J) .nil,J⟩

theorem device_model_1x_c [GI : GTab] {p0x0 : Model} {p1x0 : Str} {r : Bool} (h : device_model_1x p0x0 p1x0 = r) : Pu Tryz.prog 211 [Model.av p0x0,.rptr [.str p1x0]] (.bool r) := by
  unfold device_model_1x at h
  refine ACall.bodyN Tryz.func211 J Tryz.ntmps211 Tryz.results211 J J ?_
  refine tSR<|n_box J J J J fun b1=>rA J J<|rN<|tSR<|rF J J J<|rL J J .p0 J J<|ARun.qv (q_load_rptr J J J) J<|ARun.qv (q_seq J J) J<|rA J J<|rN<|ATodo.ret<|?_
  obtain rfl := h
  exact ImpX.here ⟨_,.cons (.tmp _ _ J) .nil,J⟩

theorem device_model_c [GI : GTab] {p0x0 : List Model} {p1x0 : Str} {r : Int} (h : device_model p0x0 p1x0 = some r) : Pu Tryz.prog 152 [lE3 p0x0,.str p1x0] (I r) := by
  unfold device_model at h
  refine ACall.bodyN Tryz.func152 J Tryz.ntmps152 Tryz.results152 J J ?_
  refine tSR<|n_box J J J J fun b1=>rA J J<|rN<|tSR<|rM J J<|ARun.qv (q_makeFunc J) J<|bndE h fun v2 e1 h=>r_callpB J (slices_IndexFunc_Model_Model_c (fun e=>device_model_1x_c (Option.some.inj e)) e1) (.cons (.co (.refl _)) (.cons (.funcL _ _ _ (.cons (.boxL _ _ _ .p0 (.cons (.co (.refl _)) .nil)) .nil)) .nil)) J J<|rA J J<|rN<|ATodo.ret<|?_
  obtain rfl := Option.some.inj h
  exact ImpX.here ⟨_,.cons (.tmp _ _ J) .nil,J⟩

theorem device_kindFault_1x_c [GI : GTab] {b_2 : Bk} {p0x0 : Bool} {p1x0 : Int} {p2x0 : Int} {r : Int} (h : device_kindFault_1x p0x0 p1x0 p2x0 = r) : ACall Tryz.prog 225 [.bool p0x0,I p1x0,.ptr b_2 0] [(b_2,.cells [I p2x0])] (T0 ([(b_2,.cells [I r])]) (.tup [])) := by
  unfold device_kindFault_1x at h
  refine ACall.lessH ?_
  refine ACall.bodyN Tryz.func225 J Tryz.ntmps225 Tryz.results225 J J ?_
  refine tS<|ATodo.cut (fun σ'=>∃ (c1 : Bool),device_kindFault_1x_j1 p1x0 p2x0 c1 = r ∧ σ' = ⟨11,[(1,I p1x0),(2,.ptr b_2 0),(9,.bool c1)],[(b_2,.cells [I p2x0])]⟩) ?_ ?_
  · refine tR<|rM J J<|rM J J<|ARun.guard J J J (fun hc=>?_) (fun hc=>?_)
    · rw [andTb hc] at h
      exact rL J J .p0 J J<|rY J J J<|ARun.qv (q_eql J J) J<|rT J J J<|rN<|ATodo.stop<|ImpX.lq [0] ⟨decide (p2x0 = (0 : Int)),h,J⟩ J J
    · rw [andFb hc] at h
      exact rG J J J J<|rE J J J<|rN<|ATodo.stop<|ImpX.lq [0] ⟨false,h,J⟩ J J
  · rintro σ' ⟨c1, h, rfl⟩
    unfold device_kindFault_1x_j1 at h
    refine ATodo.cut (fun σ'=>∃ (n2 : Int),device_kindFault_1x_j2 n2 = r ∧ σ' = ⟨11,[],[(b_2,.cells [I n2])]⟩) ?_ ?_
    · refine ATodo.cond J (fun hc=>?_) (fun hc=>?_)
      · exact have h := iteT hc h; tR<|rM J J<|n_store_ptr J J J J .p0 J J<|rN<|ATodo.stop<|ImpX.lq [0] ⟨p1x0,h,J⟩ J J
      · exact have h := iteFb hc h; tK<|ATodo.stop<|ImpX.lq [0] ⟨p2x0,h,J⟩ J J
    · rintro σ' ⟨n2, h, rfl⟩
      unfold device_kindFault_1x_j2 at h
      refine ATodo.nil<|?_
      obtain rfl := h
      exact ImpX.here ⟨_,.nil,_,.cons .p0 .nil,⟨J,J⟩⟩

theorem device_isDeviceKey_c {p0x0 : Str} {r : Bool} (h : device_isDeviceKey p0x0 = some r) : Pu Tryz.prog 66 [.str p0x0] (.bool r) := by
  unfold device_isDeviceKey at h
  refine ACall.bodyN Tryz.func66 J Tryz.ntmps66 Tryz.results66 J J ?_
  refine tSR<|rA J J<|rN<|tS<|ATodo.cut (fun σ'=>∃ (c1 : Bool),device_isDeviceKey_j1 c1 = some r ∧ σ' = ⟨12,[(2,.bool c1)],[]⟩) ?_ ?_
  · refine tR<|rM J J<|ARun.qv (q_len_str J) J<|r_callp J (base_Out_c J) (CoL.refl _) J<|ARun.qv (q_not J) J<|rM J J<|ARun.guard J J J (fun hc=>?_) (fun hc=>?_)
    · exact have h := iteT hc h; rM J J<|rY J J J<|bndE h fun v2 e1 h=>r_callp J (strings_Trim_c e1) (CoL.refl _) J<|rY J J J<|ARun.qv (q_seq J J) J<|rT J J J<|rA J J<|rN<|ATodo.stop<|ImpX.lq [] ⟨decide (v2 = ([] : Str)),h,J⟩ J J
    · exact have h := iteFb hc h; rG J J J J<|rG J J J J<|rE J J J<|rA J J<|rN<|ATodo.stop<|ImpX.lq [] ⟨false,h,J⟩ J J
  · rintro σ' ⟨c1, h, rfl⟩
    unfold device_isDeviceKey_j1 at h
    refine ATodo.ret<|?_
    obtain rfl := Option.some.inj h
    exact ImpX.here ⟨_,.cons (.tmp _ _ J) .nil,J⟩

theorem base_Version_c [GI : GTab] {p0x0 : Version} {r : Bool} (h : base_Version p0x0 = r) : Pu Tryz.prog 226 [Version.av p0x0] (.bool r) := by
  unfold base_Version at h
  refine ACall.bodyN Tryz.func226 J Tryz.ntmps226 Tryz.results226 J J ?_
  refine tSR<|n_box J J J J fun b1=>rA J J<|rN<|tS<|ATodo.cut (fun σ'=>∃ (c2 : Bool),base_Version_j1 c2 = r ∧ σ' = ⟨19,[(2,.bool c2)],[]⟩) ?_ ?_
  · refine tR<|rF J J J<|rL J J .p0 J J<|r_callp J (base_Out_c J) (CoL.refl _) J<|ARun.qv (q_not J) J<|rM J J<|ARun.guard J J J (fun hc=>?_) (fun hc=>?_)
    · rw [andTb hc] at h
      refine rF J J J<|rY J J J<|rL J J .p0 J J<|rY J J J<|r_callp J (base_Out_c J) (CoL.refl _) J<|rY J J J<|ARun.qv (q_not J) J<|rT J J J<|rM J J<|ARun.guard J J J (fun hc=>?_) (fun hc=>?_)
      · rw [andTb hc] at h
        exact rF J J J<|rY J J J<|rL J J .p0 J J<|rY J J J<|r_callp J (base_Out_c J) (CoL.refl _) J<|rY J J J<|ARun.qv (q_not J) J<|rT J J J<|rA J J<|rN<|ATodo.stop<|ImpX.lq [] ⟨!(base_Out p0x0.Patch (0 : Int) (9999 : Int)),h,J⟩ J J
      · rw [andFb hc] at h
        exact rG J J J J<|rG J J J J<|rG J J J J<|rE J J J<|rA J J<|rN<|ATodo.stop<|ImpX.lq [] ⟨false,h,J⟩ J J
    · rw [andFb hc] at h
      exact rG J J J J<|rG J J J J<|rG J J J J<|rE J J J<|rM J J<|rG J J J J<|rG J J J J<|rG J J J J<|rG J J J J<|rE J J J<|rA J J<|rN<|ATodo.stop<|ImpX.lq [] ⟨false,h,J⟩ J J
  · rintro σ' ⟨c2, h, rfl⟩
    unfold base_Version_j1 at h
    refine ATodo.ret<|?_
    obtain rfl := h
    exact ImpX.here ⟨_,.cons (.tmp _ _ J) .nil,J⟩

theorem base_Unmarked_c {p0x0 : Str} {r : Bool} (h : base_Unmarked p0x0 = some r) : Pu Tryz.prog 281 [.str p0x0] (.bool r) := by
  unfold base_Unmarked at h
  refine ACall.bodyN Tryz.func281 J Tryz.ntmps281 Tryz.results281 J J ?_
  refine tSR<|rA J J<|rN<|tS<|tSR<|rM J J<|ARun.qv (q_len_str J) J<|rM J J<|rN<|ATodo.block<|ATodo.loopI (fun x : Int=>base_Unmarked_b1 p0x0 x) (fun x σ'=>σ' = ⟨22,[(0,.str p0x0),(5,I (p0x0.length : Int)),(6,I x)],[]⟩) h ?_ ?_
  · exact ImpX.lq [] J J J
  · intro n2 z1 σ' J1 hmk h hJ1 hA1
    obtain rfl := hmk
    replace h : base_Unmarked_b1 p0x0 n2 = some z1 := h
    unfold base_Unmarked_b1 at h
    refine tSR<|ARun.qv (q_lss J J) J<|rN<|tS<|ATodo.cond_d J (fun hc=>?_) (fun hc=>?_)
    · refine have h := iteT hc h; tK<|tS<|ATodo.block<|tSR<|rM J J<|rA J J<|rN<|tS<|ATodo.cut (fun σ'=>∃ (c3 : Bool),base_Unmarked_j1 n2 c3 = some z1 ∧ σ' = ⟨22,[(0,.str p0x0),(5,I (p0x0.length : Int)),(6,I n2),(18,.bool c3)],[]⟩) ?_ ?_
      · refine tR<|rM J J<|rM J J<|bndE h fun c4 e1 h=>ARun.qv (t_index_str J J e1) J<|ARun.qv (q_lss J J) J<|rM J J<|ARun.guard_df J J J (fun hc=>?_) (fun hc=>?_)
        · exact have h := iteF hc h; rM J J<|rY J J J<|rM J J<|rY J J J<|bndE h fun c5 e2 h=>ARun.qv (t_index_str J J e2) J<|rY J J J<|ARun.qv (q_eql J J) J<|rE J J J<|rN<|ATodo.stop<|ImpX.lq [] ⟨decide ((c5.toNat : Int) = (127 : Int)),h,J⟩ J J
        · exact have h := iteT hc h; rG J J J J<|rG J J J J<|rG J J J J<|rT J J J<|rN<|ATodo.stop<|ImpX.lq [] ⟨true,h,J⟩ J J
      · rintro σ' ⟨c3, h, rfl⟩
        unfold base_Unmarked_j1 at h
        refine ATodo.cond J (fun hc=>?_) (fun hc=>?_)
        · refine have h := iteT hc h; tSR<|rA J J<|rN<|ATodo.ret<|have h := outL h hA1; ?_
          obtain rfl := Option.some.inj h
          exact ImpX.here ⟨_,.cons (.tmp _ _ J) .nil,J⟩
        · refine have h := iteFb hc h; tK<|ATodo.blk<|tR<|ARun.qv (q_addw J J) J<|rM J J<|rN<|ATodo.stop<|?_
          obtain rfl := Option.some.inj h
          exact hJ1 _ _ J<|ImpX.lq [] J J J
    · refine have h := iteF hc h; ATodo.exit J<|have h := outL h hA1; ?_
      unfold base_Unmarked_k2 at h
      refine tSR<|rM J J<|bndE h fun v6 e3 h=>r_callp J (utf8_ValidString_c e3) (CoL.refl _) J<|rA J J<|rN<|ATodo.ret<|?_
      obtain rfl := Option.some.inj h
      exact ImpX.here ⟨_,.cons (.tmp _ _ J) .nil,J⟩

theorem internal_stringslite_HasPrefix_c [GI : GTab] {p0x0 : Str} {p1x0 : Str} {r : Bool} (h : internal_stringslite_HasPrefix p0x0 p1x0 = some r) : Pu Tryz.prog 276 [.str p0x0,.str p1x0] (.bool r) := by
  unfold internal_stringslite_HasPrefix at h
  refine ACall.bodyN Tryz.func276 J Tryz.ntmps276 Tryz.results276 J J ?_
  refine tSR<|rA J J<|rN<|tS<|ATodo.cut (fun σ'=>∃ (c1 : Bool),internal_stringslite_HasPrefix_j1 c1 = some r ∧ σ' = ⟨18,[(4,.bool c1)],[]⟩) ?_ ?_
  · refine tR<|rM J J<|ARun.qv (q_len_str J) J<|rM J J<|ARun.qv (q_len_str J) J<|ARun.qv (q_geq J J) J<|rM J J<|ARun.guard_dt J J J (fun hc=>?_) (fun hc=>?_)
    · exact have h := iteT hc h; rM J J<|rY J J J<|rM J J<|rY J J J<|ARun.qv (q_len_str J) J<|rY J J J<|bndE h fun l2 e1 h=>ARun.qv (t_slice_str J .none (.some _ _ _ J) J J e1) J<|rY J J J<|rM J J<|rY J J J<|ARun.qv (q_seq J J) J<|rT J J J<|rA J J<|rN<|ATodo.stop<|ImpX.lq [] ⟨decide (l2 = p1x0),h,J⟩ J J
    · exact have h := iteF hc h; rG J J J J<|rG J J J J<|rG J J J J<|rG J J J J<|rG J J J J<|rE J J J<|rA J J<|rN<|ATodo.stop<|ImpX.lq [] ⟨false,h,J⟩ J J
  · rintro σ' ⟨c1, h, rfl⟩
    unfold internal_stringslite_HasPrefix_j1 at h
    refine ATodo.ret<|?_
    obtain rfl := Option.some.inj h
    exact ImpX.here ⟨_,.cons (.tmp _ _ J) .nil,J⟩

theorem strings_HasPrefix_c [GI : GTab] {p0x0 : Str} {p1x0 : Str} {r : Bool} (h : strings_HasPrefix p0x0 p1x0 = some r) : Pu Tryz.prog 214 [.str p0x0,.str p1x0] (.bool r) := by
  unfold strings_HasPrefix at h
  refine ACall.bodyN Tryz.func214 J Tryz.ntmps214 Tryz.results214 J J ?_
  refine tSR<|rA J J<|rN<|tSR<|rM J J<|rM J J<|bndE h fun v1 e1 h=>r_callp J (internal_stringslite_HasPrefix_c e1) (CoL.refl _) J<|rA J J<|rN<|ATodo.ret<|?_
  obtain rfl := Option.some.inj h
  exact ImpX.here ⟨_,.cons (.tmp _ _ J) .nil,J⟩

theorem internal_stringslite_HasSuffix_c [GI : GTab] {p0x0 : Str} {p1x0 : Str} {r : Bool} (h : internal_stringslite_HasSuffix p0x0 p1x0 = some r) : Pu Tryz.prog 319 [.str p0x0,.str p1x0] (.bool r) := by
  unfold internal_stringslite_HasSuffix at h
  refine ACall.bodyN Tryz.func319 J Tryz.ntmps319 Tryz.results319 J J ?_
  refine tSR<|rA J J<|rN<|tS<|ATodo.cut (fun σ'=>∃ (c1 : Bool),internal_stringslite_HasSuffix_j1 c1 = some r ∧ σ' = ⟨21,[(4,.bool c1)],[]⟩) ?_ ?_
  · refine tR<|rM J J<|ARun.qv (q_len_str J) J<|rM J J<|ARun.qv (q_len_str J) J<|ARun.qv (q_geq J J) J<|rM J J<|ARun.guard_dt J J J (fun hc=>?_) (fun hc=>?_)
    · exact have h := iteT hc h; rM J J<|rY J J J<|rM J J<|rY J J J<|ARun.qv (q_len_str J) J<|rY J J J<|rM J J<|rY J J J<|ARun.qv (q_len_str J) J<|rY J J J<|ARun.qv (q_subw J J) J<|rY J J J<|bndE h fun l2 e1 h=>ARun.qv (t_slice_str J (.some _ _ _ J) .none J J e1) J<|rY J J J<|rM J J<|rY J J J<|ARun.qv (q_seq J J) J<|rT J J J<|rA J J<|rN<|ATodo.stop<|ImpX.lq [] ⟨decide (l2 = p1x0),h,J⟩ J J
    · exact have h := iteF hc h; rG J J J J<|rG J J J J<|rG J J J J<|rG J J J J<|rG J J J J<|rG J J J J<|rG J J J J<|rG J J J J<|rE J J J<|rA J J<|rN<|ATodo.stop<|ImpX.lq [] ⟨false,h,J⟩ J J
  · rintro σ' ⟨c1, h, rfl⟩
    unfold internal_stringslite_HasSuffix_j1 at h
    refine ATodo.ret<|?_
    obtain rfl := Option.some.inj h
    exact ImpX.here ⟨_,.cons (.tmp _ _ J) .nil,J⟩

theorem strings_HasSuffix_c [GI : GTab] {p0x0 : Str} {p1x0 : Str} {r : Bool} (h : strings_HasSuffix p0x0 p1x0 = some r) : Pu Tryz.prog 282 [.str p0x0,.str p1x0] (.bool r) := by
  unfold strings_HasSuffix at h
  refine ACall.bodyN Tryz.func282 J Tryz.ntmps282 Tryz.results282 J J ?_
  refine tSR<|rA J J<|rN<|tSR<|rM J J<|rM J J<|bndE h fun v1 e1 h=>r_callp J (internal_stringslite_HasSuffix_c e1) (CoL.refl _) J<|rA J J<|rN<|ATodo.ret<|?_
  obtain rfl := Option.some.inj h
  exact ImpX.here ⟨_,.cons (.tmp _ _ J) .nil,J⟩

theorem base_Plain_c {p0x0 : Str} {r : Bool} (h : base_Plain p0x0 = some r) : Pu Tryz.prog 227 [.str p0x0] (.bool r) := by
  unfold base_Plain at h
  refine ACall.bodyN Tryz.func227 J Tryz.ntmps227 Tryz.results227 J J ?_
  refine tSR<|rA J J<|rN<|tS<|ATodo.cut (fun σ'=>∃ (c1 : Bool),base_Plain_j1 c1 = some r ∧ σ' = ⟨20,[(2,.bool c1)],[]⟩) ?_ ?_
  · refine tR<|rM J J<|bndE h fun v2 e1 h=>r_callp J (base_Unmarked_c e1) (CoL.refl _) J<|rM J J<|ARun.guard J J J (fun hc=>?_) (fun hc=>?_)
    · refine have h := iteT hc h; rM J J<|rY J J J<|bndE h fun v3 e2 h=>r_callp J (strings_HasPrefix_c e2) (CoL.refl _) J<|rY J J J<|ARun.qv (q_not J) J<|rT J J J<|rM J J<|ARun.guard J J J (fun hc=>?_) (fun hc=>?_)
      · refine have h := iteT hc h; rM J J<|rY J J J<|bndE h fun v4 e3 h=>r_callp J (strings_HasSuffix_c e3) (CoL.refl _) J<|rY J J J<|ARun.qv (q_not J) J<|rT J J J<|rM J J<|ARun.guard J J J (fun hc=>?_) (fun hc=>?_)
        · exact have h := iteT hc h; rM J J<|rY J J J<|bndE h fun v5 e4 h=>r_callp J (strings_Contains_c e4) (CoL.refl _) J<|rY J J J<|ARun.qv (q_not J) J<|rT J J J<|rA J J<|rN<|ATodo.stop<|ImpX.lq [] ⟨!v5,h,J⟩ J J
        · exact have h := iteFb hc h; rG J J J J<|rG J J J J<|rE J J J<|rA J J<|rN<|ATodo.stop<|ImpX.lq [] ⟨false,h,J⟩ J J
      · exact have h := iteFb hc h; rG J J J J<|rG J J J J<|rE J J J<|rM J J<|rG J J J J<|rG J J J J<|rG J J J J<|rE J J J<|rA J J<|rN<|ATodo.stop<|ImpX.lq [] ⟨false,h,J⟩ J J
    · exact have h := iteFb hc h; rG J J J J<|rG J J J J<|rE J J J<|rM J J<|rG J J J J<|rG J J J J<|rG J J J J<|rE J J J<|rM J J<|rG J J J J<|rG J J J J<|rG J J J J<|rE J J J<|rA J J<|rN<|ATodo.stop<|ImpX.lq [] ⟨false,h,J⟩ J J
  · rintro σ' ⟨c1, h, rfl⟩
    unfold base_Plain_j1 at h
    refine ATodo.ret<|?_
    obtain rfl := Option.some.inj h
    exact ImpX.here ⟨_,.cons (.tmp _ _ J) .nil,J⟩

theorem device_kindFault_c {p0x0 : List Model} {p1x0 : EventS} {r : EventS × Int} (h : device_kindFault p0x0 p1x0 = some r) : Pu Tryz.prog 162 [lE3 p0x0,EventS.av p1x0] (.tup [EventS.av r.1,I r.2]) := by
  unfold device_kindFault at h
  refine ACall.bodyN Tryz.func162 J Tryz.ntmps162 Tryz.results162 J J ?_
  refine tSR<|n_box J J J J fun b1=>n_alloc J J J J fun b2=>n_alloc J J J J fun b3=>rN<|tSR<|rF J J J<|rL J J .p2 J J<|rF J J J<|rL J J .p2 J J<|rF J J J<|rL J J .p2 J J<|rF J J J<|rL J J .p2 J J<|rF J J J<|rL J J .p2 J J<|rF J J J<|rL J J .p2 J J<|ARun.qv (n_build J J J J J) J<|n_store_ptr J J J J .p1 J J<|rN<|tSR<|ARun.qv (q_makeFunc J) J<|rA J J<|rN<|tS<|tSR<|rF J J J<|rL J J .p2 J J<|rN<|ATodo.block<|tSR<|ARun.qv (q_eql J J) J<|rA J J<|rN<|ATodo.cut (fun σ'=>∃ (q4 : Str) (q5 : Str) (n6 : Int) (q7 : Str) (q8 : Str) (q9 : Str) (n10 : Int) (n11 : Int) (n12 : Int) (n13 : Int) (n14 : Int),device_kindFault_j1 p1x0 q4 q5 n6 q7 q8 q9 n10 n11 n12 n13 n14 = some r ∧ σ' = ⟨123,[(4,.ptr b2 0),(5,.ptr b3 0)],[(b2,.cells [.str p1x0.Hub,I p1x0.No,I p1x0.Clock,I p1x0.At,I p1x0.Kind,.str p1x0.Device,.str q4,.str q5,I n6,.str q7,.str q8,.str q9,I n10,I n11,I n12,I n13]),(b3,.cells [I n14])]⟩) ?_ ?_
  · refine ATodo.cond_d J (fun hc=>?_) (fun hc=>?_)
    · refine have h := iteT hc h; tS<|ATodo.regionT (id := 5) (A := [0,1,0,4,0,16,3,67,207,463,1023,2047]) (H0 := [(b2,.cells [.str p1x0.Hub,I p1x0.No,I p1x0.Clock,I p1x0.At,I p1x0.Kind,.str p1x0.Device,.str [],.str [],I (0 : Int),.str [],.str [],.str [],I (0 : Int),I (0 : Int),I (0 : Int),I (0 : Int)])]) (HH := fun β=>[(b2,.cells [.str p1x0.Hub,I p1x0.No,I p1x0.Clock,I p1x0.At,I p1x0.Kind,.str p1x0.Device,.str p1x0.Model,.str [],I p1x0.Serial,.str [],.str [],.str [],I (0 : Int),I (0 : Int),I (0 : Int),I (0 : Int)]),(b3,.cells [I (0 : Int)]),(b1,.cells (cE1 p1x0))]) 10 mixed J (by kernel_rfl) (by kernel_rfl) [⟨none,some 7,[],fun _=>(b2,.cells [.str p1x0.Hub,I p1x0.No,I p1x0.Clock,I p1x0.At,I p1x0.Kind,.str p1x0.Device,.str [],.str [],I (0 : Int),.str [],.str [],.str [],I (0 : Int),I (0 : Int),I (0 : Int),I (0 : Int)]),none,[]⟩,⟨some 7,some 9,[],fun _=>(b2,.cells [.str p1x0.Hub,I p1x0.No,I p1x0.Clock,I p1x0.At,I p1x0.Kind,.str p1x0.Device,.str p1x0.Model,.str [],I (0 : Int),.str [],.str [],.str [],I (0 : Int),I (0 : Int),I (0 : Int),I (0 : Int)]),none,[]⟩,⟨some 9,none,[],fun _=>(b2,.cells [.str p1x0.Hub,I p1x0.No,I p1x0.Clock,I p1x0.At,I p1x0.Kind,.str p1x0.Device,.str p1x0.Model,.str [],I p1x0.Serial,.str [],.str [],.str [],I (0 : Int),I (0 : Int),I (0 : Int),I (0 : Int)]),none,[]⟩] [] J (by kernel_rfl) J (.cons .p1 .nil) (fun _=>J)<|AT.am 7 J J<|AM.qv (n_field_ptr J J) J<|AM.qv (q_load_ptr J J .p1 J) J<|AM.qv (n_field_ptr J J) J<|AM.qv (q_load_ptr J J .p1 J) J<|AM.qv (n_field_ptr J J) J<|AM.qv (q_load_ptr J J .p1 J) J<|AM.qv (n_field_ptr J J) J<|AM.nil<|AT.run0 (Ti := [(b2,.cells [.str p1x0.Hub,I p1x0.No,I p1x0.Clock,I p1x0.At,I p1x0.Kind,.str p1x0.Device,.str [],.str [],I (0 : Int),.str [],.str [],.str [],I (0 : Int),I (0 : Int),I (0 : Int),I (0 : Int)])]) (Pi := [(b2,.cells [.str p1x0.Hub,I p1x0.No,I p1x0.Clock,I p1x0.At,I p1x0.Kind,.str p1x0.Device,.str p1x0.Model,.str [],I (0 : Int),.str [],.str [],.str [],I (0 : Int),I (0 : Int),I (0 : Int),I (0 : Int)])]) (fun _=>J) (fun _=>J) (fun _=>J) J J ?_ ?_
      · exact n_store_ptr J J J J .p0 J J<|ARun.nil ⟨_,J⟩
      refine AT.am 1 J J<|AM.qv (n_field_ptr J J) J<|AM.nil<|AT.run0 (Ti := [(b2,.cells [.str p1x0.Hub,I p1x0.No,I p1x0.Clock,I p1x0.At,I p1x0.Kind,.str p1x0.Device,.str p1x0.Model,.str [],I (0 : Int),.str [],.str [],.str [],I (0 : Int),I (0 : Int),I (0 : Int),I (0 : Int)])]) (Pi := [(b2,.cells [.str p1x0.Hub,I p1x0.No,I p1x0.Clock,I p1x0.At,I p1x0.Kind,.str p1x0.Device,.str p1x0.Model,.str [],I p1x0.Serial,.str [],.str [],.str [],I (0 : Int),I (0 : Int),I (0 : Int),I (0 : Int)])]) (fun _=>J) (fun _=>J) (fun _=>J) J J ?_ ?_
      · exact n_store_ptr J J J J .p0 J J<|ARun.nil ⟨_,J⟩
      exact AT.nilN (fun _=>J) fun β=>rF J J J<|n_store_ptr J J J J .p0 J J<|rN<|tSR<|rM J J<|rM J J<|rF J J J<|rL J J .p2 J J<|bndE h fun v15 e1 h=>r_callp J (device_model_c e1) (CoL.refl _) J<|ARun.qv (q_lss J J) J<|t_callv0 J J J (device_kindFault_1x_c J) (CoL.refl _) (.cons .p1 .nil) J J<|rN<|tSR<|rM J J<|rF J J J<|rL J J .p2 J J<|r_callp J (base_Out_c J) (CoL.refl _) J<|t_callv0 J J J (device_kindFault_1x_c J) (CoL.refl _) (.cons .p0 .nil) J J<|rN<|tR<|rM J J<|rF J J J<|rL J J .p2 J J<|bndE h fun v16 e2 h=>r_callp J (device_isDeviceKey_c e2) (CoL.refl _) J<|ARun.qv (q_not J) J<|t_callv0 J J J (device_kindFault_1x_c J) (CoL.refl _) (.cons .p0 .nil) J J<|rN<|ATodo.stop<|ImpX.lq [1,0] ⟨p1x0.Model,[],p1x0.Serial,p1x0.Key,[],[],(0 : Int),(0 : Int),(0 : Int),(0 : Int),(device_kindFault_1x (!v16) (5 : Int) (device_kindFault_1x (base_Out p1x0.Serial (1 : Int) (99999999 : Int)) (1 : Int) (device_kindFault_1x (decide (v15 < (0 : Int))) (8 : Int) (0 : Int)))),h,J⟩ J J
    · refine have h := iteF hc h; tSR<|ARun.qv (q_eql J J) J<|rA J J<|rN<|ATodo.cut (fun σ'=>∃ (q17 : Str) (q18 : Str) (q19 : Str) (q20 : Str) (n21 : Int) (n22 : Int) (n23 : Int) (n24 : Int) (n25 : Int),device_kindFault_j2 p1x0 q17 q18 q19 q20 n21 n22 n23 n24 n25 = some r ∧ σ' = ⟨123,[(4,.ptr b2 0),(5,.ptr b3 0)],[(b2,.cells [.str p1x0.Hub,I p1x0.No,I p1x0.Clock,I p1x0.At,I p1x0.Kind,.str p1x0.Device,.str [],.str q17,I (0 : Int),.str q18,.str q19,.str q20,I n21,I n22,I n23,I n24]),(b3,.cells [I n25])]⟩) ?_ ?_
      · refine ATodo.cond_d J (fun hc=>?_) (fun hc=>?_)
        · exact have h := iteT hc h; tSR<|rF J J J<|rL J J .p2 J J<|rF J J J<|n_store_ptr J J J J .p1 J J<|rN<|tR<|rM J J<|rF J J J<|rL J J .p2 J J<|bndE h fun v26 e3 h=>r_callp J (base_Key_c e3) (CoL.refl _) J<|ARun.qv (q_not J) J<|t_callv0 J J J (device_kindFault_1x_c J) (CoL.refl _) (.cons .p0 .nil) J J<|rN<|ATodo.stop<|ImpX.lq [1,0] ⟨p1x0.Tenant,[],[],[],(0 : Int),(0 : Int),(0 : Int),(0 : Int),(device_kindFault_1x (!v26) (5 : Int) (0 : Int)),h,J⟩ J J
        · refine have h := iteF hc h; tSR<|ARun.qv (q_eql J J) J<|rA J J<|rN<|ATodo.cut (fun σ'=>∃ (q27 : Str) (q28 : Str) (q29 : Str) (n30 : Int) (n31 : Int) (n32 : Int) (n33 : Int) (n34 : Int),device_kindFault_j3 p1x0 q27 q28 q29 n30 n31 n32 n33 n34 = some r ∧ σ' = ⟨123,[(4,.ptr b2 0),(5,.ptr b3 0)],[(b2,.cells [.str p1x0.Hub,I p1x0.No,I p1x0.Clock,I p1x0.At,I p1x0.Kind,.str p1x0.Device,.str [],.str [],I (0 : Int),.str q27,.str q28,.str q29,I n30,I n31,I n32,I n33]),(b3,.cells [I n34])]⟩) ?_ ?_
          · refine ATodo.cond_d J (fun hc=>?_) (fun hc=>?_)
            · refine have h := iteT hc h; tS<|ATodo.regionT (id := 13) (A := [0,1,0,4,3,19,63,127]) (H0 := [(b2,.cells [.str p1x0.Hub,I p1x0.No,I p1x0.Clock,I p1x0.At,I p1x0.Kind,.str p1x0.Device,.str [],.str [],I (0 : Int),.str [],.str [],.str [],I (0 : Int),I (0 : Int),I (0 : Int),I (0 : Int)])]) (HH := fun β=>[(b2,.cells [.str p1x0.Hub,I p1x0.No,I p1x0.Clock,I p1x0.At,I p1x0.Kind,.str p1x0.Device,.str [],.str [],I (0 : Int),.str p1x0.Key,.str [],.str [],I (0 : Int),I (0 : Int),I (0 : Int),I (0 : Int)]),(b3,.cells [I (0 : Int)]),(b1,.cells (cE1 p1x0))]) 6 mixed J (by kernel_rfl) (by kernel_rfl) [⟨none,some 5,[],fun _=>(b2,.cells [.str p1x0.Hub,I p1x0.No,I p1x0.Clock,I p1x0.At,I p1x0.Kind,.str p1x0.Device,.str [],.str [],I (0 : Int),.str [],.str [],.str [],I (0 : Int),I (0 : Int),I (0 : Int),I (0 : Int)]),none,[]⟩,⟨some 5,none,[],fun _=>(b2,.cells [.str p1x0.Hub,I p1x0.No,I p1x0.Clock,I p1x0.At,I p1x0.Kind,.str p1x0.Device,.str [],.str [],I (0 : Int),.str p1x0.Key,.str [],.str [],I (0 : Int),I (0 : Int),I (0 : Int),I (0 : Int)]),none,[]⟩] [] J (by kernel_rfl) J (.cons .p1 .nil) (fun _=>J)<|AT.am 5 J J<|AM.qv (n_field_ptr J J) J<|AM.qv (q_load_ptr J J .p1 J) J<|AM.qv (n_field_ptr J J) J<|AM.qv (q_load_ptr J J .p1 J) J<|AM.qv (n_field_ptr J J) J<|AM.nil<|AT.run0 (Ti := [(b2,.cells [.str p1x0.Hub,I p1x0.No,I p1x0.Clock,I p1x0.At,I p1x0.Kind,.str p1x0.Device,.str [],.str [],I (0 : Int),.str [],.str [],.str [],I (0 : Int),I (0 : Int),I (0 : Int),I (0 : Int)])]) (Pi := [(b2,.cells [.str p1x0.Hub,I p1x0.No,I p1x0.Clock,I p1x0.At,I p1x0.Kind,.str p1x0.Device,.str [],.str [],I (0 : Int),.str p1x0.Key,.str [],.str [],I (0 : Int),I (0 : Int),I (0 : Int),I (0 : Int)])]) (fun _=>J) (fun _=>J) (fun _=>J) J J ?_ ?_
              · exact n_store_ptr J J J J .p0 J J<|ARun.nil ⟨_,J⟩
              exact AT.nilN (fun _=>J) fun β=>rF J J J<|n_store_ptr J J J J .p0 J J<|rN<|tSR<|rM J J<|rF J J J<|rL J J .p2 J J<|bndE h fun v35 e4 h=>r_callp J (device_isDeviceKey_c e4) (CoL.refl _) J<|ARun.qv (q_not J) J<|t_callv0 J J J (device_kindFault_1x_c J) (CoL.refl _) (.cons .p1 .nil) J J<|rN<|tR<|rM J J<|rF J J J<|rL J J .p2 J J<|rF J J J<|rL J J .p2 J J<|r_callp J (base_Out_c J) (CoL.refl _) J<|t_callv0 J J J (device_kindFault_1x_c J) (CoL.refl _) (.cons .p0 .nil) J J<|rN<|ATodo.stop<|ImpX.lq [1,0] ⟨p1x0.Key,[],[],p1x0.Until,(0 : Int),(0 : Int),(0 : Int),(device_kindFault_1x (base_Out p1x0.Until p1x0.At (345686400000 : Int)) (1 : Int) (device_kindFault_1x (!v35) (5 : Int) (0 : Int))),h,J⟩ J J
            · refine have h := iteF hc h; tSR<|ARun.qv (q_eql J J) J<|rA J J<|rN<|ATodo.cut (fun σ'=>∃ (q36 : Str) (q37 : Str) (n38 : Int) (n39 : Int) (n40 : Int) (n41 : Int),device_kindFault_j4 p1x0 q36 q37 n38 n39 n40 n41 = some r ∧ σ' = ⟨123,[(4,.ptr b2 0),(5,.ptr b3 0)],[(b2,.cells [.str p1x0.Hub,I p1x0.No,I p1x0.Clock,I p1x0.At,I p1x0.Kind,.str p1x0.Device,.str [],.str [],I (0 : Int),.str [],.str q36,.str q37,I (0 : Int),I n38,I n39,I n40]),(b3,.cells [I n41])]⟩) ?_ ?_
              · refine ATodo.cond_d J (fun hc=>?_) (fun hc=>?_)
                · exact have h := iteT hc h; tSR<|rF J J J<|ARun.qv (n_load_ptr_part J J .p2 J J) J<|rF J J J<|n_store_ptr J J J J .p1 J J<|rN<|tR<|rM J J<|rF J J J<|ARun.qv (n_load_ptr_part J J .p2 J J) J<|r_callp J (base_Version_c J) (CoL.refl _) J<|ARun.qv (q_not J) J<|t_callv0 J J J (device_kindFault_1x_c J) (CoL.refl _) (.cons .p0 .nil) J J<|rN<|ATodo.stop<|ImpX.lq [1,0] ⟨[],[],p1x0.Firmware.Major,p1x0.Firmware.Minor,p1x0.Firmware.Patch,(device_kindFault_1x (!(base_Version p1x0.Firmware)) (1 : Int) (0 : Int)),h,J⟩ J J
                · refine have h := iteF hc h; tSR<|ARun.qv (q_eql J J) J<|rA J J<|rN<|ATodo.cut (fun σ'=>∃ (q42 : Str) (q43 : Str) (n44 : Int),device_kindFault_j5 p1x0 q42 q43 n44 = some r ∧ σ' = ⟨123,[(4,.ptr b2 0),(5,.ptr b3 0)],[(b2,.cells [.str p1x0.Hub,I p1x0.No,I p1x0.Clock,I p1x0.At,I p1x0.Kind,.str p1x0.Device,.str [],.str [],I (0 : Int),.str [],.str q42,.str q43,I (0 : Int),I (0 : Int),I (0 : Int),I (0 : Int)]),(b3,.cells [I n44])]⟩) ?_ ?_
                  · refine ATodo.cond_d J (fun hc=>?_) (fun hc=>?_)
                    · refine have h := iteT hc h; tS<|ATodo.regionT (id := 20) (A := [0,1,0,4,3,19,63,127]) (H0 := [(b2,.cells [.str p1x0.Hub,I p1x0.No,I p1x0.Clock,I p1x0.At,I p1x0.Kind,.str p1x0.Device,.str [],.str [],I (0 : Int),.str [],.str [],.str [],I (0 : Int),I (0 : Int),I (0 : Int),I (0 : Int)])]) (HH := fun β=>[(b2,.cells [.str p1x0.Hub,I p1x0.No,I p1x0.Clock,I p1x0.At,I p1x0.Kind,.str p1x0.Device,.str [],.str [],I (0 : Int),.str [],.str p1x0.Name,.str [],I (0 : Int),I (0 : Int),I (0 : Int),I (0 : Int)]),(b3,.cells [I (0 : Int)]),(b1,.cells (cE1 p1x0))]) 6 mixed J (by kernel_rfl) (by kernel_rfl) [⟨none,some 5,[],fun _=>(b2,.cells [.str p1x0.Hub,I p1x0.No,I p1x0.Clock,I p1x0.At,I p1x0.Kind,.str p1x0.Device,.str [],.str [],I (0 : Int),.str [],.str [],.str [],I (0 : Int),I (0 : Int),I (0 : Int),I (0 : Int)]),none,[]⟩,⟨some 5,none,[],fun _=>(b2,.cells [.str p1x0.Hub,I p1x0.No,I p1x0.Clock,I p1x0.At,I p1x0.Kind,.str p1x0.Device,.str [],.str [],I (0 : Int),.str [],.str p1x0.Name,.str [],I (0 : Int),I (0 : Int),I (0 : Int),I (0 : Int)]),none,[]⟩] [] J (by kernel_rfl) J (.cons .p1 .nil) (fun _=>J)<|AT.am 5 J J<|AM.qv (n_field_ptr J J) J<|AM.qv (q_load_ptr J J .p1 J) J<|AM.qv (n_field_ptr J J) J<|AM.qv (q_load_ptr J J .p1 J) J<|AM.qv (n_field_ptr J J) J<|AM.nil<|AT.run0 (Ti := [(b2,.cells [.str p1x0.Hub,I p1x0.No,I p1x0.Clock,I p1x0.At,I p1x0.Kind,.str p1x0.Device,.str [],.str [],I (0 : Int),.str [],.str [],.str [],I (0 : Int),I (0 : Int),I (0 : Int),I (0 : Int)])]) (Pi := [(b2,.cells [.str p1x0.Hub,I p1x0.No,I p1x0.Clock,I p1x0.At,I p1x0.Kind,.str p1x0.Device,.str [],.str [],I (0 : Int),.str [],.str p1x0.Name,.str [],I (0 : Int),I (0 : Int),I (0 : Int),I (0 : Int)])]) (fun _=>J) (fun _=>J) (fun _=>J) J J ?_ ?_
                      · exact n_store_ptr J J J J .p0 J J<|ARun.nil ⟨_,J⟩
                      refine AT.nilN (fun _=>J) fun β=>rF J J J<|n_store_ptr J J J J .p0 J J<|rN<|tSR<|rM J J<|rF J J J<|rL J J .p2 J J<|bndE h fun v45 e5 h=>r_callp J (base_Key_c e5) (CoL.refl _) J<|ARun.qv (q_not J) J<|t_callv0 J J J (device_kindFault_1x_c J) (CoL.refl _) (.cons .p1 .nil) J J<|rN<|ATodo.cut (fun σ'=>∃ (n46 : Int),device_kindFault_j6 p1x0 n46 = some r ∧ σ' = ⟨123,[(4,.ptr b2 0),(5,.ptr b3 0)],[(b2,.cells [.str p1x0.Hub,I p1x0.No,I p1x0.Clock,I p1x0.At,I p1x0.Kind,.str p1x0.Device,.str [],.str [],I (0 : Int),.str [],.str p1x0.Name,.str p1x0.Value,I (0 : Int),I (0 : Int),I (0 : Int),I (0 : Int)]),(b3,.cells [I n46])]⟩) ?_ ?_
                      · refine tR<|rM J J<|rF J J J<|rL J J .p2 J J<|ARun.qv (q_len_str J) J<|ARun.qv (q_gtr J J) J<|rM J J<|ARun.guard_df J J J (fun hc=>?_) (fun hc=>?_)
                        · exact have h := iteF hc h; rF J J J<|rY J J J<|rL J J .p2 J J<|rY J J J<|bndE h fun v47 e6 h=>r_callp J (base_Plain_c e6) (CoL.refl _) J<|rY J J J<|ARun.qv (q_not J) J<|rE J J J<|t_callv0 J J J (device_kindFault_1x_c J) (CoL.refl _) (.cons .p0 .nil) J J<|rN<|ATodo.stop<|ImpX.lq [1,0] ⟨(device_kindFault_1x (!v47) (3 : Int) (device_kindFault_1x (!v45) (5 : Int) (0 : Int))),h,J⟩ J J
                        · exact have h := iteT hc h; rG J J J J<|rG J J J J<|rG J J J J<|rT J J J<|t_callv0 J J J (device_kindFault_1x_c J) (CoL.refl _) (.cons .p0 .nil) J J<|rN<|ATodo.stop<|ImpX.lq [1,0] ⟨(device_kindFault_1x true (3 : Int) (device_kindFault_1x (!v45) (5 : Int) (0 : Int))),h,J⟩ J J
                      · rintro σ' ⟨n46, h, rfl⟩
                        unfold device_kindFault_j6 at h
                        exact ATodo.stop<|ImpX.lq [0,0] ⟨p1x0.Name,p1x0.Value,n46,h,J⟩ J J
                    · exact have h := iteF hc h; tK<|ATodo.stop<|ImpX.lq [1,0] ⟨[],[],(0 : Int),h,J⟩ J J
                  · rintro σ' ⟨q42, q43, n44, h, rfl⟩
                    unfold device_kindFault_j5 at h
                    exact ATodo.stop<|ImpX.lq [0,0] ⟨q42,q43,(0 : Int),(0 : Int),(0 : Int),n44,h,J⟩ J J
              · rintro σ' ⟨q36, q37, n38, n39, n40, n41, h, rfl⟩
                unfold device_kindFault_j4 at h
                exact ATodo.stop<|ImpX.lq [0,0] ⟨[],q36,q37,(0 : Int),n38,n39,n40,n41,h,J⟩ J J
          · rintro σ' ⟨q27, q28, q29, n30, n31, n32, n33, n34, h, rfl⟩
            unfold device_kindFault_j3 at h
            exact ATodo.stop<|ImpX.lq [0,0] ⟨[],q27,q28,q29,n30,n31,n32,n33,n34,h,J⟩ J J
      · rintro σ' ⟨q17, q18, q19, q20, n21, n22, n23, n24, n25, h, rfl⟩
        unfold device_kindFault_j2 at h
        exact ATodo.stop<|ImpX.lq [0,0] ⟨[],q17,(0 : Int),q18,q19,q20,n21,n22,n23,n24,n25,h,J⟩ J J
  · rintro σ' ⟨q4, q5, n6, q7, q8, q9, n10, n11, n12, n13, n14, h, rfl⟩
    unfold device_kindFault_j1 at h
    refine ATodo.blk<|tS<|ATodo.regionT (id := 23) (A := [0,0,1,7]) (H0 := [(b2,.cells [.str p1x0.Hub,I p1x0.No,I p1x0.Clock,I p1x0.At,I p1x0.Kind,.str p1x0.Device,.str q4,.str q5,I n6,.str q7,.str q8,.str q9,I n10,I n11,I n12,I n13])]) (HH := fun β=>[(b2,.cells [.str p1x0.Hub,I p1x0.No,I p1x0.Clock,I p1x0.At,I p1x0.Kind,.str p1x0.Device,.str q4,.str q5,I n6,.str q7,.str q8,.str q9,I n10,I n11,I n12,I n13]),(b3,.cells [I n14])]) 3 mixed J (by kernel_rfl) (by kernel_rfl) [⟨none,some 2,[0],fun _=>(b2,.cells [.str p1x0.Hub,I p1x0.No,I p1x0.Clock,I p1x0.At,I p1x0.Kind,.str p1x0.Device,.str q4,.str q5,I n6,.str q7,.str q8,.str q9,I n10,I n11,I n12,I n13]),none,[]⟩,⟨some 2,none,[],fun _=>(b2,.cells [.str p1x0.Hub,I p1x0.No,I p1x0.Clock,I p1x0.At,I p1x0.Kind,.str p1x0.Device,.str q4,.str q5,I n6,.str q7,.str q8,.str q9,I n10,I n11,I n12,I n13]),none,[]⟩] [] J (by kernel_rfl) J (.cons .p0 .nil) (fun _=>J)<|AT.rd (Rs := [(b2,.cells [.str p1x0.Hub,I p1x0.No,I p1x0.Clock,I p1x0.At,I p1x0.Kind,.str p1x0.Device,.str q4,.str q5,I n6,.str q7,.str q8,.str q9,I n10,I n11,I n12,I n13])]) (fun _=>J) J (fun _=>J) (fun _=>J) (q_load_ptr_all J J .p0 J) J<|AT.am 1 J J<|AM.qv (q_load_ptr J J .p0 J) J<|AM.nil<|AT.run0 (Ti := [(b2,.cells [.str p1x0.Hub,I p1x0.No,I p1x0.Clock,I p1x0.At,I p1x0.Kind,.str p1x0.Device,.str q4,.str q5,I n6,.str q7,.str q8,.str q9,I n10,I n11,I n12,I n13])]) (Pi := [(b2,.cells [.str p1x0.Hub,I p1x0.No,I p1x0.Clock,I p1x0.At,I p1x0.Kind,.str p1x0.Device,.str q4,.str q5,I n6,.str q7,.str q8,.str q9,I n10,I n11,I n12,I n13])]) (fun _=>J) (fun _=>J) (fun _=>J) J J ?_ ?_
    · exact n_store_ptr J J J J .p0 J J<|ARun.nil ⟨_,J⟩
    refine AT.nilN (fun _=>J) fun β=>n_store_ptr J J J J .p1 J J<|rN<|ATodo.ret<|?_
    obtain rfl := Option.some.inj h
    exact ImpX.here ⟨_,.cons (.all _ _ _ _ _ _ J .p0 TUnder.h TInfo.h J J) (.cons (.one _ _ _ _ _ _ J .p1 TUnder.h J J) .nil),J⟩

theorem device_eventFault_c {p0x0 : List Model} {p1x0 : EventS} {r : Int} (h : device_eventFault p0x0 p1x0 = some r) : Pu Tryz.prog 97 [lE3 p0x0,EventS.av p1x0] (I r) := by
  unfold device_eventFault at h
  refine ACall.bodyN Tryz.func97 J Tryz.ntmps97 Tryz.results97 J J ?_
  refine tSR<|n_box J J J J fun b1=>rA J J<|rN<|tS<|ATodo.block<|tSR<|rF J J J<|rL J J .p0 J J<|bndE h fun v2 e1 h=>r_callp J (base_Key_c e1) (CoL.refl _) J<|ARun.qv (q_not J) J<|rA J J<|rN<|ATodo.cond J (fun hc=>?_) (fun hc=>?_)
  · refine have h := iteT hc h; tSR<|rA J J<|rN<|ATodo.ret<|?_
    obtain rfl := Option.some.inj h
    exact ImpX.here ⟨_,.cons (.tmp _ _ J) .nil,J⟩
  · refine have h := iteFb hc h; tS<|ATodo.cut (fun σ'=>∃ (c3 : Bool),device_eventFault_j1 p0x0 p1x0 c3 = some r ∧ σ' = ⟨52,[(0,lE3 p0x0),(3,.ptr b1 0),(12,.bool c3)],[(b1,.cells (cE1 p1x0))]⟩) ?_ ?_
    · refine tR<|rF J J J<|rL J J .p0 J J<|r_callp J (base_Out_c J) (CoL.refl _) J<|rM J J<|ARun.guard J J J (fun hc=>?_) (fun hc=>?_)
      · rw [orFb hc] at h
        refine rF J J J<|rY J J J<|rL J J .p0 J J<|rY J J J<|rF J J J<|rY J J J<|rL J J .p0 J J<|rY J J J<|r_callp J (base_Out_c J) (CoL.refl _) J<|rE J J J<|rM J J<|ARun.guard J J J (fun hc=>?_) (fun hc=>?_)
        · rw [orFb hc] at h
          exact rF J J J<|rY J J J<|rL J J .p0 J J<|rY J J J<|r_callp J (base_Moment_c J) (CoL.refl _) J<|rY J J J<|ARun.qv (q_not J) J<|rE J J J<|rA J J<|rN<|ATodo.stop<|ImpX.lq [0] ⟨!(base_Moment p1x0.At),h,J⟩ J J
        · rw [orTb hc] at h
          exact rG J J J J<|rG J J J J<|rG J J J J<|rT J J J<|rA J J<|rN<|ATodo.stop<|ImpX.lq [0] ⟨true,h,J⟩ J J
      · rw [orTb hc] at h
        exact rG J J J J<|rG J J J J<|rG J J J J<|rG J J J J<|rT J J J<|rM J J<|rG J J J J<|rG J J J J<|rG J J J J<|rG J J J J<|rT J J J<|rA J J<|rN<|ATodo.stop<|ImpX.lq [0] ⟨true,h,J⟩ J J
    · rintro σ' ⟨c3, h, rfl⟩
      unfold device_eventFault_j1 at h
      refine ATodo.cond J (fun hc=>?_) (fun hc=>?_)
      · refine have h := iteT hc h; tSR<|rA J J<|rN<|ATodo.ret<|?_
        obtain rfl := Option.some.inj h
        exact ImpX.here ⟨_,.cons (.tmp _ _ J) .nil,J⟩
      · refine have h := iteFb hc h; tSR<|rF J J J<|rL J J .p0 J J<|r_callp J (base_Out_c J) (CoL.refl _) J<|rA J J<|rN<|ATodo.cond J (fun hc=>?_) (fun hc=>?_)
        · refine have h := iteT hc h; tSR<|rA J J<|rN<|ATodo.ret<|?_
          obtain rfl := Option.some.inj h
          exact ImpX.here ⟨_,.cons (.tmp _ _ J) .nil,J⟩
        · refine have h := iteFb hc h; tSR<|rF J J J<|rL J J .p0 J J<|bndE h fun v4 e2 h=>r_callp J (base_Key_c e2) (CoL.refl _) J<|ARun.qv (q_not J) J<|rA J J<|rN<|ATodo.cond J (fun hc=>?_) (fun hc=>?_)
          · refine have h := iteT hc h; tSR<|rA J J<|rN<|ATodo.ret<|?_
            obtain rfl := Option.some.inj h
            exact ImpX.here ⟨_,.cons (.tmp _ _ J) .nil,J⟩
          · refine have h := iteFb hc h; tK<|ATodo.blk<|tSR<|rM J J<|ARun.qv (q_load_ptr_all J J .p0 J) J<|bndE h fun v5 e3 h=>r_callp J (device_kindFault_c e3) (CoL.refl _) J<|rM J J<|rX J J J<|rX J J J<|n_alloc J J J J fun b6=>n_store_ptr J J J J .p0 J J<|rA J J<|rN<|tS<|tS<|ATodo.cut (fun σ'=>∃ (c7 : Bool),device_eventFault_j2 v5 c7 = some r ∧ σ' = ⟨52,[(6,I v5.2),(50,.bool c7)],[]⟩) ?_ ?_
            · refine tR<|rM J J<|ARun.qv (q_eql J J) J<|rM J J<|ARun.guard_dt J J J (fun hc=>?_) (fun hc=>?_)
              · rw [andTd hc] at h
                exact ARun.qv (q_load_ptr_all J J .p0 J) J<|rY J J J<|ARun.qv (q_load_ptr_all J J .p1 J) J<|rY J J J<|ARun.qv (t_tne (g := EventS.av) (X := v5.1) (Y := p1x0) J J J J J) J<|rT J J J<|rN<|ATodo.stop<|ImpX.lq [] ⟨decide (v5.1 ≠ p1x0),h,J⟩ J J
              · rw [andFd hc] at h
                exact rG J J J J<|rG J J J J<|rE J J J<|rN<|ATodo.stop<|ImpX.lq [] ⟨false,h,J⟩ J J
            · rintro σ' ⟨c7, h, rfl⟩
              unfold device_eventFault_j2 at h
              refine ATodo.cut (fun σ'=>∃ (n8 : Int),device_eventFault_j3 n8 = some r ∧ σ' = ⟨52,[(6,I n8)],[]⟩) ?_ ?_
              · refine ATodo.cond J (fun hc=>?_) (fun hc=>?_)
                · exact have h := iteT hc h; tR<|rA J J<|rN<|ATodo.stop<|ImpX.lq [] ⟨(3 : Int),h,J⟩ J J
                · exact have h := iteFb hc h; tK<|ATodo.stop<|ImpX.lq [] ⟨v5.2,h,J⟩ J J
              · rintro σ' ⟨n8, h, rfl⟩
                unfold device_eventFault_j3 at h
                refine tSR<|rM J J<|rA J J<|rN<|ATodo.ret<|?_
                obtain rfl := Option.some.inj h
                exact ImpX.here ⟨_,.cons (.tmp _ _ J) .nil,J⟩

theorem device_byClock_c [GI : GTab] {p0x0 : EventS} {p1x0 : EventS} {r : Int} (h : device_byClock p0x0 p1x0 = some r) : Pu Tryz.prog 159 [EventS.av p0x0,EventS.av p1x0] (I r) := by
  unfold device_byClock at h
  refine ACall.bodyN Tryz.func159 J Tryz.ntmps159 Tryz.results159 J J ?_
  refine tSR<|n_box J J J J fun b1=>n_box J J J J fun b2=>rA J J<|rN<|tS<|ATodo.regionM (id := 1) (A := [0,1,0,4,15,0,32,0,128,511,0,1024,0,4096,16383,32767,65535,131071]) 18 mixed J (by kernel_rfl) (by kernel_rfl)<|AM.qv (n_field_ptr J J) J<|AM.qv (q_load_ptr J J .p1 J) J<|AM.qv (n_field_ptr J J) J<|AM.qv (q_load_ptr J J .p0 J) J<|AM.callp J (cmp_Compare_int_c J) (CoL.refl _) J<|AM.qv (n_field_ptr J J) J<|AM.qv (q_load_ptr J J .p1 J) J<|AM.qv (n_field_ptr J J) J<|AM.qv (q_load_ptr J J .p0 J) J<|AM.callp J (strings_Compare_c J) (CoL.refl _) J<|AM.qv (n_field_ptr J J) J<|AM.qv (q_load_ptr J J .p1 J) J<|AM.qv (n_field_ptr J J) J<|AM.qv (q_load_ptr J J .p0 J) J<|AM.callp J (cmp_Compare_int_c J) (CoL.refl _) J<|AM.buildSliceL (xs := ([(cmp_Compare_int p0x0.Clock p1x0.Clock),(Lib.compareBytes p0x0.Hub p1x0.Hub),(cmp_Compare_int p0x0.No p1x0.No)] : List Int).map I) J J J J J J<|bndE h fun v3 e1 h=>AM.callp J (cmp_Or_int_c e1) (CoL.refl _) J<|AM.qv (q_assign J) J<|AM.nil<|rN<|ATodo.ret<|?_
  obtain rfl := Option.some.inj h
  exact ImpX.here ⟨_,.cons (.tmp _ _ J) .nil,J⟩

theorem device_listFault_c {p0x0 : List Model} {p1x0 : List EventS} {r : Int} (h : device_listFault p0x0 p1x0 = some r) : Pu Tryz.prog 88 [lE3 p0x0,lE4 p1x0] (I r) := by
  unfold device_listFault at h
  refine ACall.bodyN Tryz.func88 J Tryz.ntmps88 Tryz.results88 J J ?_
  refine tSR<|rA J J<|rN<|tS<|tSR<|rM J J<|ARun.qv (t_len J) J<|ARun.qv (q_gtr J J) J<|rN<|ATodo.cond_d J (fun hc=>?_) (fun hc=>?_)
  · refine have h := iteT hc h; tSR<|rA J J<|rN<|ATodo.ret<|?_
    obtain rfl := Option.some.inj h
    exact ImpX.here ⟨_,.cons (.tmp _ _ J) .nil,J⟩
  · refine have h := iteF hc h; tK<|tSR<|t_makeMap J fun b1=>rA J J<|rN<|tS<|tSR<|rM J J<|ARun.qv (t_len J) J<|rM J J<|rN<|ATodo.block<|ATodo.loopI (fun x : (List (Str × Int)) × Int=>device_listFault_b1 p0x0 p1x0 x.1 x.2) (fun x σ'=>σ' = ⟨55,[(0,lE3 p0x0),(1,lE4 p1x0),(5,.mref b1),(13,lE4 p1x0),(14,I (p1x0.length : Int)),(15,I x.2)],[(b1,mE5 x.1)]⟩) h ?_ ?_
    · exact ImpX.lq [0] J J J
    · intro x z1 σ' J1 hmk h hJ1 hA1
      obtain ⟨l4, n5⟩ := x
      obtain rfl := hmk
      replace h : device_listFault_b1 p0x0 p1x0 l4 n5 = some z1 := h
      unfold device_listFault_b1 at h
      refine tSR<|ARun.qv (q_lss J J) J<|rN<|tS<|ATodo.cond_d J (fun hc=>?_) (fun hc=>?_)
      · refine have h := iteT hc h; tK<|tS<|ATodo.block<|tSR<|rM J J<|bndE h fun v6 e1 h=>ARun.qv (t_index J J J e1 J J) J<|ARun.qv (q_load_rptr_agg J J J) J<|n_alloc J J J J fun b7=>rA J J<|n_store_ptr J J J J .p0 J J<|rN<|tS<|tSR<|rM J J<|ARun.qv (q_load_ptr_all J J .p0 J) J<|bndE h fun v8 e2 h=>r_callp J (device_eventFault_c e2) (CoL.refl _) J<|rA J J<|rN<|tSR<|rM J J<|ARun.qv (q_neq J J) J<|rN<|ATodo.cond_d J (fun hc=>?_) (fun hc=>?_)
        · refine have h := iteT hc h; tSR<|rM J J<|rA J J<|rN<|ATodo.ret<|have h := outL h hA1; ?_
          obtain rfl := Option.some.inj h
          exact ImpX.here ⟨_,.cons (.tmp _ _ J) .nil,J⟩
        · refine have h := iteF hc h; tK<|tS<|tS<|ATodo.cut (fun σ'=>∃ (c9 : Bool),device_listFault_j1 l4 n5 v6 c9 = some z1 ∧ σ' = ⟨55,[(0,lE3 p0x0),(1,lE4 p1x0),(5,.mref b1),(7,.ptr b7 0),(13,lE4 p1x0),(14,I (p1x0.length : Int)),(15,I n5),(37,.bool c9)],[(b1,mE5 l4),(b7,.cells (cE1 v6))]⟩) ?_ ?_
          · refine ATodo.regionM (id := 10) (A := [0,1,3,7,7,23,63,127,7,511,1023,2047]) 12 mixed J (by kernel_rfl) (by kernel_rfl)<|AM.qv (q_move J) J<|AM.qv (q_gtr J J) J<|AM.qv (q_move J) J<|AM.guard_dt J J J (fun hc=>?_) (fun hc=>?_)
            · exact have h := iteT hc h; AM.qv (q_move J) J<|AM.guard_yes J J J<|AM.qv (q_move J) J<|AM.guard_yes J J J<|AM.qv (q_subw J J) J<|AM.guard_yes J J J<|bndE h fun v10 e3 h=>AM.qv (t_index J J J e3 J J) J<|AM.guard_yes J J J<|AM.qv (q_load_rptr_agg J J J) J<|AM.guard_yes J J J<|AM.qv (q_load_ptr_all J J .p0 J) J<|AM.guard_yes J J J<|bndE h fun v11 e4 h=>AM.callp J (device_byClock_c e4) (CoL.refl _) J<|AM.guard_yes J J J<|AM.qv (q_geq J J) J<|AM.qv (q_pick_t J J) J<|AM.nil<|rN<|ATodo.stop<|ImpX.lq [1,0] ⟨decide ((0 : Int) ≤ v11),h,J⟩ J J
            · exact have h := iteF hc h; AM.guard_no J J J J<|AM.guard_no J J J J<|AM.guard_no J J J J<|AM.guard_no J J J J<|AM.guard_no J J J J<|AM.guard_no J J J J<|AM.guard_no J J J J<|AM.qv (q_pick_f J J) J<|AM.nil<|rN<|ATodo.stop<|ImpX.lq [1,0] ⟨false,h,J⟩ J J
          · rintro σ' ⟨c9, h, rfl⟩
            unfold device_listFault_j1 at h
            refine ATodo.cond J (fun hc=>?_) (fun hc=>?_)
            · refine have h := iteT hc h; tSR<|rA J J<|rN<|ATodo.ret<|have h := outL h hA1; ?_
              obtain rfl := Option.some.inj h
              exact ImpX.here ⟨_,.cons (.tmp _ _ J) .nil,J⟩
            · refine have h := iteFb hc h; tK<|tS<|tSR<|rF J J J<|rL J J .p1 J J<|rM J J<|rF J J J<|rL J J .p1 J J<|bndE h fun v12 e5 h=>ARun.qv (t_lookup (gk := AV.str) (gv := I) (M := l4) (key := v6.Hub) (Z := (0 : Int)) J J .p0 J J J e5 J) J<|ARun.qv (q_addw J J) J<|ARun.qv (q_neq J J) J<|rN<|ATodo.cond_d J (fun hc=>?_) (fun hc=>?_)
              · refine have h := iteT hc h; tSR<|rA J J<|rN<|ATodo.ret<|have h := outL h hA1; ?_
                obtain rfl := Option.some.inj h
                exact ImpX.here ⟨_,.cons (.tmp _ _ J) .nil,J⟩
              · refine have h := iteF hc h; tK<|tR<|rM J J<|rF J J J<|rL J J .p1 J J<|rF J J J<|rL J J .p1 J J<|t_mapUpdate (gk := AV.str) (gv := I) (M := l4) (key := v6.Hub) (v := v6.No) J J J J .p0<|rN<|ATodo.blk<|tR<|ARun.qv (q_addw J J) J<|rM J J<|rN<|ATodo.stop<|?_
                obtain rfl := Option.some.inj h
                exact hJ1 _ _ J<|ImpX.lq [0] J J J
      · refine have h := iteF hc h; ATodo.exit J<|have h := outL h hA1; ?_
        unfold device_listFault_k2 at h
        refine tS<|tSR<|rM J J<|ARun.qv (t_len_map (gk := AV.str) (gv := I) (M := l4) J .p0) J<|ARun.qv (q_gtr J J) J<|rN<|ATodo.cond_d J (fun hc=>?_) (fun hc=>?_)
        · refine have h := iteT hc h; tSR<|rA J J<|rN<|ATodo.ret<|?_
          obtain rfl := Option.some.inj h
          exact ImpX.here ⟨_,.cons (.tmp _ _ J) .nil,J⟩
        · refine have h := iteF hc h; tK<|tSR<|rA J J<|rN<|ATodo.ret<|?_
          obtain rfl := Option.some.inj h
          exact ImpX.here ⟨_,.cons (.tmp _ _ J) .nil,J⟩

theorem device_CheckEvents_c {p0x0 : List Model} {p1x0 : List EventS} {r : Int} (h : device_CheckEvents p0x0 p1x0 = some r) : Pu Tryz.prog 32 [lE3 p0x0,lE4 p1x0] (I r) := by
  unfold device_CheckEvents at h
  refine ACall.bodyN Tryz.func32 J Tryz.ntmps32 Tryz.results32 J J ?_
  refine tSR<|rA J J<|rN<|tS<|tSR<|rM J J<|bndE h fun v1 e1 h=>r_callp J (device_CheckModels_c e1) (CoL.refl _) J<|rA J J<|rN<|tSR<|rM J J<|ARun.qv (q_neq J J) J<|rN<|ATodo.cond_d J (fun hc=>?_) (fun hc=>?_)
  · refine have h := iteT hc h; tSR<|rM J J<|rA J J<|rN<|ATodo.ret<|?_
    obtain rfl := Option.some.inj h
    exact ImpX.here ⟨_,.cons (.tmp _ _ J) .nil,J⟩
  · refine have h := iteF hc h; tK<|tSR<|rM J J<|rM J J<|bndE h fun v2 e2 h=>r_callp J (device_listFault_c e2) (CoL.refl _) J<|rA J J<|rN<|ATodo.ret<|?_
    obtain rfl := Option.some.inj h
    exact ImpX.here ⟨_,.cons (.tmp _ _ J) .nil,J⟩

theorem base_First_c [GI : GTab] {p0x0 : List Int} {r : Int} (h : base_First p0x0 = some r) : Pu Tryz.prog 89 [lE0 p0x0] (I r) := by
  unfold base_First at h
  refine ACall.bodyN Tryz.func89 J Tryz.ntmps89 Tryz.results89 J J ?_
  refine tSR<|rA J J<|rN<|tS<|tSR<|rM J J<|ARun.qv (t_len J) J<|rM J J<|rN<|ATodo.block<|ATodo.loopI (fun x : Int=>base_First_b1 p0x0 x) (fun x σ'=>σ' = ⟨15,[(5,lE0 p0x0),(6,I (p0x0.length : Int)),(7,I x)],[]⟩) h ?_ ?_
  · exact ImpX.lq [] J J J
  · intro n2 z1 σ' J1 hmk h hJ1 hA1
    obtain rfl := hmk
    replace h : base_First_b1 p0x0 n2 = some z1 := h
    unfold base_First_b1 at h
    refine tSR<|ARun.qv (q_lss J J) J<|rN<|tS<|ATodo.cond_d J (fun hc=>?_) (fun hc=>?_)
    · refine have h := iteT hc h; tK<|tS<|ATodo.block<|tSR<|bndE h fun v3 e1 h=>ARun.qv (t_index J J J e1 J J) J<|ARun.qv (q_load_rptr J J J) J<|rA J J<|rN<|tSR<|rM J J<|ARun.qv (q_neq J J) J<|rN<|ATodo.cond_d J (fun hc=>?_) (fun hc=>?_)
      · refine have h := iteT hc h; tSR<|rM J J<|rA J J<|rN<|ATodo.ret<|have h := outL h hA1; ?_
        obtain rfl := Option.some.inj h
        exact ImpX.here ⟨_,.cons (.tmp _ _ J) .nil,J⟩
      · refine have h := iteF hc h; tK<|ATodo.blk<|tR<|ARun.qv (q_addw J J) J<|rM J J<|rN<|ATodo.stop<|?_
        obtain rfl := Option.some.inj h
        exact hJ1 _ _ J<|ImpX.lq [] J J J
    · refine have h := iteF hc h; ATodo.exit J<|have h := outL h hA1; tSR<|rA J J<|rN<|ATodo.ret<|?_
      obtain rfl := Option.some.inj h
      exact ImpX.here ⟨_,.cons (.tmp _ _ J) .nil,J⟩

theorem slices_Grow_Event_Event_n0x_c [GI : GTab] {p1x0 : Int} {r : (List EventS)} (h : slices_Grow_Event_Event_n0x p1x0 = some r) : ACall Tryz.prog 160 [.nil,I p1x0] [] (T1 (fun d_0=>[(d_0,aE4 r)]) (fun d_0=>.sl 16 d_0 0 r.length)) := by
  unfold slices_Grow_Event_Event_n0x at h
  refine ACall.lessH ?_
  refine ACall.bodyN Tryz.func160 J Tryz.ntmps160 Tryz.results160 J J ?_
  refine tSR<|rA J J<|rN<|tS<|tSR<|rM J J<|ARun.qv (q_lss J J) J<|rN<|ATodo.cond_d J (fun hc=>?_) (fun hc=>?_)
  · refine have h := iteT hc h; tR<|?_
    cases h
  · refine have h := iteF hc h; tK<|tS<|tSR<|rM J J<|rM J J<|ARun.qv (q_cap_nil J) J<|rM J J<|ARun.qv (q_len_nil J) J<|ARun.qv (q_subw J J) J<|ARun.qv (q_subw J J) J<|rA J J<|rN<|tSR<|rM J J<|ARun.qv (q_gtr J J) J<|rN<|ATodo.cut (fun σ'=>∃ (b1 : Bk) (l2 : List EventS),slices_Grow_Event_Event_n0x_j1 l2 = some r ∧ σ' = ⟨27,[(0,.sl 16 b1 0 l2.length)],[(b1,aE4 l2)]⟩) ?_ ?_
    · refine ATodo.cond_d J (fun hc=>?_) (fun hc=>?_)
      · exact have h := iteT hc h; tR<|rM J J<|rM J J<|ARun.qv (q_cap_nil J) J<|bndE h fun l3 e1 h=>ARun.qv (t_slice_nil J .none (.some _ _ _ J) J J e1) J<|rM J J<|bndE h fun l4 e2 h=>t_appendZ (g := EventS.av) (Z := (⟨[],(0 : Int),(0 : Int),(0 : Int),(0 : Int),[],[],[],(0 : Int),[],[],[],(0 : Int),(⟨(0 : Int),(0 : Int),(0 : Int)⟩ : Version)⟩ : EventS)) J J J J J J J J J e2 fun b5=>rM J J<|ARun.qv (q_len_nil J) J<|bndE h fun l6 e3 h=>ARun.qv (t_slice_sl J J .none (.some _ _ _ J) J J e3) J<|rA J J<|ARun.ghost<|ImpX.takeT e3 .p0<|ImpX.here<|rN<|ATodo.stop<|ImpX.lq [0] ⟨b5,l6,h,J⟩ J J
      · exact have h := iteF hc h; tK<|ATodo.stop<|ImpX.arr (s := 0) 16 J fun b7=>ImpX.lq [0] ⟨b7,[],h,J⟩ J J
    · rintro σ' ⟨b1, l2, h, rfl⟩
      unfold slices_Grow_Event_Event_n0x_j1 at h
      refine tSR<|rM J J<|rA J J<|rN<|ATodo.ret<|?_
      obtain rfl := Option.some.inj h
      exact ImpX.here ⟨_,.cons (.tmp _ _ J) .nil,_,.cons .p0 .nil,⟨b1,J,J⟩⟩

theorem slices_Concat_Event_Event_c [GI : GTab] {p0x0 : List (List EventS)} {r : (List EventS)} (h : slices_Concat_Event_Event p0x0 = some r) : ACall Tryz.prog 90 [lE9 p0x0] [] (T1 (fun d_0=>[(d_0,aE4 r)]) (fun d_0=>.sl 16 d_0 0 r.length)) := by
  unfold slices_Concat_Event_Event at h
  refine ACall.lessH ?_
  refine ACall.bodyN Tryz.func90 J Tryz.ntmps90 Tryz.results90 J J ?_
  refine tSR<|rA J J<|rN<|tSR<|rA J J<|rN<|tS<|tSR<|rM J J<|ARun.qv (t_len J) J<|rM J J<|rN<|ATodo.block<|ATodo.loopI (fun x : Int × Int=>slices_Concat_Event_Event_b1 p0x0 x.1 x.2) (fun x σ'=>σ' = ⟨36,[(0,lE9 p0x0),(3,I x.1),(9,lE9 p0x0),(10,I (p0x0.length : Int)),(11,I x.2)],[]⟩) h ?_ ?_
  · exact ImpX.lq [] J J J
  · intro x z1 σ' J1 hmk h hJ1 hA1
    obtain ⟨n3, n4⟩ := x
    obtain rfl := hmk
    replace h : slices_Concat_Event_Event_b1 p0x0 n3 n4 = some z1 := h
    unfold slices_Concat_Event_Event_b1 at h
    refine tSR<|ARun.qv (q_lss J J) J<|rN<|tS<|ATodo.cond_d J (fun hc=>?_) (fun hc=>?_)
    · refine have h := iteT hc h; tK<|tS<|ATodo.block<|tSR<|bndE h fun v5 e1 h=>ARun.qv (t_index J J J e1 J J) J<|ARun.qv (q_load_rptr J J J) J<|rA J J<|rN<|tSR<|rM J J<|rM J J<|ARun.qv (t_len J) J<|ARun.qv (q_addw J J) J<|rA J J<|rN<|tSR<|rM J J<|ARun.qv (q_lss J J) J<|rN<|ATodo.cond_d J (fun hc=>?_) (fun hc=>?_)
      · refine have h := iteT hc h; tR<|?_
        cases h
      · refine have h := iteF hc h; tK<|ATodo.blk<|tR<|ARun.qv (q_addw J J) J<|rM J J<|rN<|ATodo.stop<|?_
        obtain rfl := Option.some.inj h
        exact hJ1 _ _ J<|ImpX.lq [] J J J
    · refine have h := iteF hc h; ATodo.exit J<|have h := outL h hA1; ?_
      unfold slices_Concat_Event_Event_k1 at h
      refine tSR<|rM J J<|bndE h fun v6 e2 h=>t_call1 J (slices_Grow_Event_Event_n0x_c e2) (CoL.refl _) .nil (fun _=>J) J fun b7=>rA J J<|rN<|tS<|tSR<|rM J J<|ARun.qv (t_len J) J<|rM J J<|rN<|ATodo.block<|ATodo.loopI (fun x : (List EventS) × Int=>slices_Concat_Event_Event_b2 p0x0 x.1 x.2) (fun x σ'=>∃ (b11 : Bk),σ' = ⟨36,[(6,.sl 16 b11 0 x.1.length),(25,lE9 p0x0),(26,I (p0x0.length : Int)),(27,I x.2)],[(b11,aE4 x.1)]⟩) h ?_ ?_
      · exact ImpX.lq [0] ⟨b7,J⟩ J J
      · intro x z2 σ' J2 hmk h hJ2 hA2
        obtain ⟨l12, n13⟩ := x
        obtain ⟨b11, rfl⟩ := hmk
        replace h : slices_Concat_Event_Event_b2 p0x0 l12 n13 = some z2 := h
        unfold slices_Concat_Event_Event_b2 at h
        refine tSR<|ARun.qv (q_lss J J) J<|rN<|tS<|ATodo.cond_d J (fun hc=>?_) (fun hc=>?_)
        · refine have h := iteT hc h; tK<|tS<|ATodo.block<|tSR<|bndE h fun v14 e3 h=>ARun.qv (t_index J J J e3 J J) J<|ARun.qv (q_load_rptr J J J) J<|rA J J<|rN<|tR<|rM J J<|rM J J<|bndE h fun l15 e4 h=>t_append (g := EventS.av) J J J J J J J J (.list _) e4 (fun _=>.p0) J fun b16=>rA J J<|rN<|ATodo.blk<|tR<|ARun.qv (q_addw J J) J<|rM J J<|rN<|ATodo.stop<|?_
          obtain rfl := Option.some.inj h
          exact hJ2 _ _ J<|ImpX.lq [0] ⟨b16,J⟩ J J
        · refine have h := iteF hc h; ATodo.exit J<|have h := outL h hA2; tSR<|rM J J<|rA J J<|rN<|ATodo.ret<|?_
          obtain rfl := Option.some.inj h
          exact ImpX.here ⟨_,.cons (.tmp _ _ J) .nil,_,.cons .p0 .nil,⟨b11,J,J⟩⟩

theorem device_put_o1x_c [GI : GTab] {b_0 : Bk} {b_1 : Bk} {p0x0 : List (Device_place × EventS)} {p1x0 : List EventS} {p2x0 : EventS} {r : (List EventS) × Int × (List (Device_place × EventS))} (h : device_put_o1x p0x0 p1x0 p2x0 = some r) : ACall Tryz.prog 91 [.mref b_0,.sl 16 b_1 0 p1x0.length,EventS.av p2x0] [(b_0,mE10 p0x0),(b_1,aE4 p1x0)] (T1 (fun d_0=>[(b_0,mE10 r.2.2),(d_0,aE4 r.1)]) (fun d_0=>.tup [.sl 16 d_0 0 r.1.length,I r.2.1])) := by
  unfold device_put_o1x at h
  refine ACall.lessH ?_
  refine ACall.bodyN Tryz.func91 J Tryz.ntmps91 Tryz.results91 J J ?_
  refine tSR<|n_box J J J J fun b1=>rA J J<|rA J J<|rN<|tSR<|rF J J J<|rL J J .p0 J J<|rF J J J<|rL J J .p0 J J<|ARun.qv (n_build J J J J J) J<|n_alloc J J J J fun b2=>n_store_ptr J J J J .p0 J J<|rN<|tSR<|rM J J<|ARun.qv (q_load_ptr_all J J .p0 J) J<|bndE h fun v3 e1 h=>ARun.qv (t_lookup2 (gk := Device_place.av) (gv := EventS.av) (M := p0x0) (key := (⟨p2x0.Hub,p2x0.No⟩ : Device_place)) (Z := (⟨[],(0 : Int),(0 : Int),(0 : Int),(0 : Int),[],[],[],(0 : Int),[],[],[],(0 : Int),(⟨(0 : Int),(0 : Int),(0 : Int)⟩ : Version)⟩ : EventS)) J J .p2 J J J e1 J) J<|rM J J<|rX J J J<|rX J J J<|n_alloc J J J J fun b4=>n_store_ptr J J J J .p0 J J<|rA J J<|rN<|tS<|ATodo.block<|tSR<|rM J J<|ARun.qv (q_not J) J<|rA J J<|rN<|ATodo.cond J (fun hc=>?_) (fun hc=>?_)
  · refine have h := iteT hc h; tSR<|rM J J<|ARun.qv (q_load_ptr_all J J .p1 J) J<|ARun.qv (q_load_ptr_all J J .p2 J) J<|t_mapUpdate (gk := Device_place.av) (gv := EventS.av) (M := p0x0) (key := (⟨p2x0.Hub,p2x0.No⟩ : Device_place)) (v := p2x0) J J J J .p3<|rN<|tSR<|rM J J<|ARun.qv (q_load_ptr_all J J .p2 J) J<|n_buildSliceL (xs := ([p2x0] : List EventS).map EventS.av) J J J J J J<|bndE h fun l5 e2 h=>t_append (g := EventS.av) J J J J J J J J (.list _) e2 (fun _=>.p4) J fun b6=>rA J J<|rA J J<|rN<|ATodo.ret<|?_
    obtain rfl := Option.some.inj h
    exact ImpX.here ⟨_,.cons (.tmp _ _ J) (.cons (.tmp _ _ J) .nil),_,.cons .p3 (.cons .p3 .nil),⟨b6,J,J⟩⟩
  · refine have h := iteFb hc h; tSR<|ARun.qv (q_load_ptr_all J J .p0 J) J<|ARun.qv (q_load_ptr_all J J .p2 J) J<|ARun.qv (t_tne (g := EventS.av) (X := v3.1) (Y := p2x0) J J J J J) J<|rA J J<|rN<|ATodo.cond_d J (fun hc=>?_) (fun hc=>?_)
    · refine have h := iteT hc h; tSR<|rA J J<|rA J J<|rN<|ATodo.ret<|?_
      obtain rfl := Option.some.inj h
      exact ImpX.arr (s := 6) 16 J fun b7=>ImpX.here ⟨_,.cons (.tmp _ _ J) (.cons (.tmp _ _ J) .nil),_,.cons .p4 (.cons .p0 .nil),⟨b7,J,J⟩⟩
    · refine have h := iteF hc h; tK<|ATodo.blk<|tSR<|rM J J<|rA J J<|rA J J<|rN<|ATodo.ret<|?_
      obtain rfl := Option.some.inj h
      exact ImpX.here ⟨_,.cons (.tmp _ _ J) (.cons (.tmp _ _ J) .nil),_,.cons .p3 (.cons .p3 .nil),⟨b_1,J,J⟩⟩

theorem slices_SortFunc_Event_Event_k : SortK Tryz.prog 100 16 := ⟨fun enc hk h1 cf hO g cb blk off cap d w eg hc hH hb hs=>AnyQ.slices_SortFunc_eq Tryz.sortF100 16 Tryz.isAgg66 Tryz.sizeOf66 enc hk h1 cf hO g cb blk off cap d w eg hc hH hb hs,fun p cap fv w=>AnyF.slices_SortFunc_none Tryz.sortF100 p cap fv w⟩
theorem slices_SortFunc_Event_Event_c [GI : GTab] {b_0 : Bk} {p0x0 : List EventS} {fnb : EventS → EventS → Option Int} {fnb_F : FuncId} [IsFn Tryz.prog fnb_F] {fnb_C : List AV} (fnb_h : ∀ {y0 y1 : _} {u : Int},fnb y0 y1 = some u → @Pu strongT Tryz.prog fnb_F (EventS.av y0 :: EventS.av y1 :: fnb_C) (I u)) {r : (List EventS)} (h : slices_SortFunc_Event_Event p0x0 fnb = some r) : ACall Tryz.prog 100 [.sl 16 b_0 0 p0x0.length,.func (.func fnb_F) fnb_C] [(b_0,.arr 16 (p0x0.map EventS.av))] (T0 [(b_0,.arr 16 (r.map EventS.av))] (.tup [])) :=
  sort_acall (fn := fnb) slices_SortFunc_Event_Event_k J @fnb_h (fun _=>J) h

theorem device_sorted_c {b_1 : Bk} {p0x0 : List Model} {p1x0 : List EventS} {r : (List EventS) × Int} (h : device_sorted p0x0 p1x0 = some r) : ACall Tryz.prog 92 [lE3 p0x0,.sl 16 b_1 0 p1x0.length] [(b_1,aE4 p1x0)] (T1 (fun d_0=>[(d_0,aE4 r.1)]) (fun d_0=>.tup [.sl 16 d_0 0 r.1.length,I r.2])) := by
  unfold device_sorted at h
  refine ACall.lessH ?_
  refine ACall.bodyN Tryz.func92 J Tryz.ntmps92 Tryz.results92 J J ?_
  refine tSR<|rA J J<|rA J J<|rN<|tSR<|rM J J<|bndE h fun v1 e1 h=>t_call0 J (slices_SortFunc_Event_Event_c (fun e=>device_byClock_c (GI := strongT) e) (lenOk_f e1)) (CoL.refl _) (.cons .p0 .nil) J J<|ARun.ghost<|ImpX.eqs (s := 1) (av' := .sl 16 b_1 0 v1.length) J (congrArg (AV.sl 16 b_1 0) (lenOk_l e1))<|ImpX.here<|ARun.ghost<|ImpX.eqs (s := 7) (av' := .sl 16 b_1 0 v1.length) J (congrArg (AV.sl 16 b_1 0) (lenOk_l e1))<|ImpX.here<|rN<|tS<|tSR<|rM J J<|rM J J<|bndE h fun v2 e2 h=>r_callpB J (device_listFault_c e2) (.cons (.co (.refl _)) (.cons (CoB.arrT .p0) .nil)) J J<|rA J J<|rN<|tSR<|rM J J<|ARun.qv (q_neq J J) J<|rN<|ATodo.cond_d J (fun hc=>?_) (fun hc=>?_)
  · refine have h := iteT hc h; tSR<|rM J J<|rA J J<|rA J J<|rN<|ATodo.ret<|?_
    obtain rfl := Option.some.inj h
    exact ImpX.arr (s := 4) 16 J fun b3=>ImpX.here ⟨_,.cons (.tmp _ _ J) (.cons (.tmp _ _ J) .nil),_,.cons .p0 .nil,⟨b3,J,J⟩⟩
  · refine have h := iteF hc h; tK<|tSR<|rM J J<|rA J J<|rA J J<|rN<|ATodo.ret<|?_
    obtain rfl := Option.some.inj h
    exact ImpX.here ⟨_,.cons (.tmp _ _ J) (.cons (.tmp _ _ J) .nil),_,.cons .p0 .nil,⟨b_1,J,J⟩⟩

theorem device_Merge_c {p0x0 : List Model} {p1x0 : List EventS} {p2x0 : List EventS} {r : (List EventS) × Int} (h : device_Merge p0x0 p1x0 p2x0 = some r) : ACall Tryz.prog 33 [lE3 p0x0,lE4 p1x0,lE4 p2x0] [] (T1 (fun d_0=>[(d_0,aE4 r.1)]) (fun d_0=>.tup [.sl 16 d_0 0 r.1.length,I r.2])) := by
  unfold device_Merge at h
  refine ACall.lessH ?_
  refine ACall.bodyN Tryz.func33 J Tryz.ntmps33 Tryz.results33 J J ?_
  refine tSR<|rA J J<|rA J J<|rN<|tS<|tSR<|rM J J<|rM J J<|bndE h fun v1 e1 h=>r_callp J (device_CheckEvents_c e1) (CoL.refl _) J<|rM J J<|rM J J<|bndE h fun v2 e2 h=>r_callp J (device_listFault_c e2) (CoL.refl _) J<|n_buildSliceL (xs := ([v1,v2] : List Int).map I) J J J J J J<|bndE h fun v3 e3 h=>r_callp J (base_First_c e3) (CoL.refl _) J<|rA J J<|rN<|tSR<|rM J J<|ARun.qv (q_neq J J) J<|rN<|ATodo.cond_d J (fun hc=>?_) (fun hc=>?_)
  · refine have h := iteT hc h; tSR<|rM J J<|rA J J<|rA J J<|rN<|ATodo.ret<|?_
    obtain rfl := Option.some.inj h
    exact ImpX.arr (s := 6) 16 J fun b4=>ImpX.here ⟨_,.cons (.tmp _ _ J) (.cons (.tmp _ _ J) .nil),_,.cons .p0 .nil,⟨b4,J,J⟩⟩
  · refine have h := iteF hc h; tK<|tSR<|t_makeMap J fun b5=>rA J J<|rN<|tSR<|rA J J<|rN<|tS<|tSR<|rM J J<|rM J J<|n_buildSliceL (xs := ([p1x0,p2x0] : List (List EventS)).map (encL 16 EventS.av)) J J J J J J<|bndE h fun v6 e4 h=>t_call1 J (slices_Concat_Event_Event_c e4) (CoL.refl _) .nil (fun _=>J) J fun b7=>ARun.qv (t_len_sl J) J<|rM J J<|rN<|ATodo.block<|ATodo.loopI (fun x : (List (Device_place × EventS)) × (List EventS) × Int=>device_Merge_b1 p0x0 v6 x.1 x.2.1 x.2.2) (fun x σ'=>∃ (b13 : Bk),σ' = ⟨53,[(0,lE3 p0x0),(9,.mref b5),(10,.sl 16 b13 0 x.2.1.length),(30,.sl 16 b7 0 v6.length),(31,I (v6.length : Int)),(32,I x.2.2)],[(b5,mE10 x.1),(b13,aE4 x.2.1),(b7,aE4 v6)]⟩) h ?_ ?_
    · exact ImpX.arr (s := 10) 16 J fun b16=>ImpX.lq [2,0,0] ⟨b16,J⟩ J J
    · intro x z1 σ' J1 hmk h hJ1 hA1
      obtain ⟨l12, l14, n15⟩ := x
      obtain ⟨b13, rfl⟩ := hmk
      replace h : device_Merge_b1 p0x0 v6 l12 l14 n15 = some z1 := h
      unfold device_Merge_b1 at h
      refine tSR<|ARun.qv (q_lss J J) J<|rN<|tS<|ATodo.cond_d J (fun hc=>?_) (fun hc=>?_)
      · refine have h := iteT hc h; tK<|tS<|ATodo.block<|tSR<|bndE h fun v17 e5 h=>ARun.qv (t_index_sl J J J e5) J<|ARun.qv (t_load_aptr_agg (g := EventS.av) J J (.inl .p2) J e5 J) J<|n_alloc J J J J fun b18=>n_store_ptr J J J J .p0 J J<|rN<|tSR<|rM J J<|rM J J<|ARun.qv (q_load_ptr_all J J .p0 J) J<|bndE h fun v19 e6 h=>t_call1 J (device_put_o1x_c e6) (CoL.refl _) (.cons .p1 (.cons .p1 .nil)) (fun _=>J) J fun b20=>rM J J<|rX J J J<|rX J J J<|rA J J<|rA J J<|rN<|tS<|tSR<|rM J J<|ARun.qv (q_neq J J) J<|rN<|ATodo.cond_d J (fun hc=>?_) (fun hc=>?_)
        · refine have h := iteT hc h; tSR<|rM J J<|rA J J<|rA J J<|rN<|ATodo.ret<|have h := outL h hA1; ?_
          obtain rfl := Option.some.inj h
          exact ImpX.arr (s := 6) 16 J fun b21=>ImpX.here ⟨_,.cons (.tmp _ _ J) (.cons (.tmp _ _ J) .nil),_,.cons .p0 .nil,⟨b21,J,J⟩⟩
        · refine have h := iteF hc h; tK<|tR<|rM J J<|rA J J<|rN<|ATodo.blk<|tR<|ARun.qv (q_addw J J) J<|rM J J<|rN<|ATodo.stop<|?_
          obtain rfl := Option.some.inj h
          exact hJ1 _ _ J<|ImpX.lq [0,0,1] ⟨b20,J⟩ J J
      · refine have h := iteF hc h; ATodo.exit J<|have h := outL h hA1; ?_
        unfold device_Merge_k1 at h
        refine tSR<|rM J J<|rM J J<|bndE h fun v22 e7 h=>t_call1 J (device_sorted_c e7) (CoL.refl _) (.cons .p1 .nil) (fun _=>J) J fun b23=>rX J J J<|rX J J J<|rA J J<|rA J J<|rN<|ATodo.ret<|?_
        obtain rfl := Option.some.inj h
        exact ImpX.here ⟨_,.cons (.tmp _ _ J) (.cons (.tmp _ _ J) .nil),_,.cons .p0 .nil,⟨b23,J,J⟩⟩

theorem device_known_c [GI : GTab] {p0x0 : List EventS} {r : (List (Str × Int))} (h : device_known p0x0 = some r) : ACall Tryz.prog 93 [lE4 p0x0] [] (T1 (fun d_0=>[(d_0,mE5 r)]) (fun d_0=>.mref d_0)) := by
  unfold device_known at h
  refine ACall.lessH ?_
  refine ACall.bodyN Tryz.func93 J Tryz.ntmps93 Tryz.results93 J J ?_
  refine tSR<|rA J J<|rN<|tSR<|t_makeMap J fun b1=>rA J J<|rN<|tS<|tSR<|rM J J<|ARun.qv (t_len J) J<|rM J J<|rN<|ATodo.block<|ATodo.loopI (fun x : (List (Str × Int)) × Int=>device_known_b1 p0x0 x.1 x.2) (fun x σ'=>σ' = ⟨25,[(3,.mref b1),(7,lE4 p0x0),(8,I (p0x0.length : Int)),(9,I x.2)],[(b1,mE5 x.1)]⟩) h ?_ ?_
  · exact ImpX.lq [0] J J J
  · intro x z1 σ' J1 hmk h hJ1 hA1
    obtain ⟨l4, n5⟩ := x
    obtain rfl := hmk
    replace h : device_known_b1 p0x0 l4 n5 = some z1 := h
    unfold device_known_b1 at h
    refine tSR<|ARun.qv (q_lss J J) J<|rN<|tS<|ATodo.cond_d J (fun hc=>?_) (fun hc=>?_)
    · refine have h := iteT hc h; tK<|tS<|ATodo.block<|tSR<|bndE h fun v6 e1 h=>ARun.qv (t_index J J J e1 J J) J<|ARun.qv (q_load_rptr_agg J J J) J<|n_alloc J J J J fun b7=>n_store_ptr J J J J .p0 J J<|rN<|tR<|rM J J<|rF J J J<|rL J J .p0 J J<|rM J J<|rF J J J<|rL J J .p0 J J<|bndE h fun v8 e2 h=>ARun.qv (t_lookup (gk := AV.str) (gv := I) (M := l4) (key := v6.Hub) (Z := (0 : Int)) J J .p1 J J J e2 J) J<|rF J J J<|rL J J .p0 J J<|ARun.qv (q_max J J) J<|t_mapUpdate (gk := AV.str) (gv := I) (M := l4) (key := v6.Hub) (v := max v8 v6.No) J J J J .p1<|rN<|ATodo.blk<|tR<|ARun.qv (q_addw J J) J<|rM J J<|rN<|ATodo.stop<|?_
      obtain rfl := Option.some.inj h
      exact hJ1 _ _ J<|ImpX.lq [1] J J J
    · refine have h := iteF hc h; ATodo.exit J<|have h := outL h hA1; tSR<|rM J J<|rA J J<|rN<|ATodo.ret<|?_
      obtain rfl := Option.some.inj h
      exact ImpX.here ⟨_,.cons (.tmp _ _ J) .nil,_,.cons .p0 .nil,⟨b1,J,J⟩⟩

theorem device_Known_1x_c [GI : GTab] {p0x0 : Seen} {p1x0 : Seen} {r : Int} (h : device_Known_1x p0x0 p1x0 = r) : Pu Tryz.prog 95 [Seen.av p0x0,Seen.av p1x0] (I r) := by
  unfold device_Known_1x at h
  refine ACall.bodyN Tryz.func95 J Tryz.ntmps95 Tryz.results95 J J ?_
  refine tSR<|n_box J J J J fun b1=>n_box J J J J fun b2=>rA J J<|rN<|tSR<|rF J J J<|rL J J .p1 J J<|rF J J J<|rL J J .p0 J J<|r_callp J (strings_Compare_c J) (CoL.refl _) J<|rA J J<|rN<|ATodo.ret<|?_
  obtain rfl := h
  exact ImpX.here ⟨_,.cons (.tmp _ _ J) .nil,J⟩

theorem slices_SortFunc_Seen_Seen_k : SortK Tryz.prog 94 2 := ⟨fun enc hk h1 cf hO g cb blk off cap d w eg hc hH hb hs=>AnyQ.slices_SortFunc_eq Tryz.sortF94 2 Tryz.isAgg78 Tryz.sizeOf78 enc hk h1 cf hO g cb blk off cap d w eg hc hH hb hs,fun p cap fv w=>AnyF.slices_SortFunc_none Tryz.sortF94 p cap fv w⟩
theorem slices_SortFunc_Seen_Seen_c [GI : GTab] {b_0 : Bk} {p0x0 : List Seen} {fnb : Seen → Seen → Option Int} {fnb_F : FuncId} [IsFn Tryz.prog fnb_F] {fnb_C : List AV} (fnb_h : ∀ {y0 y1 : _} {u : Int},fnb y0 y1 = some u → @Pu strongT Tryz.prog fnb_F (Seen.av y0 :: Seen.av y1 :: fnb_C) (I u)) {r : (List Seen)} (h : slices_SortFunc_Seen_Seen p0x0 fnb = some r) : ACall Tryz.prog 94 [.sl 2 b_0 0 p0x0.length,.func (.func fnb_F) fnb_C] [(b_0,.arr 2 (p0x0.map Seen.av))] (T0 [(b_0,.arr 2 (r.map Seen.av))] (.tup [])) :=
  sort_acall (fn := fnb) slices_SortFunc_Seen_Seen_k J @fnb_h (fun _=>J) h

theorem device_Known_c {p0x0 : List Model} {p1x0 : List EventS} {r : (List Seen) × Int} (h : device_Known p0x0 p1x0 = some r) : ACall Tryz.prog 34 [lE3 p0x0,lE4 p1x0] [] (T1 (fun d_0=>[(d_0,aE6 r.1)]) (fun d_0=>.tup [.sl 2 d_0 0 r.1.length,I r.2])) := by
  unfold device_Known at h
  refine ACall.lessH ?_
  refine ACall.bodyN Tryz.func34 J Tryz.ntmps34 Tryz.results34 J J ?_
  refine tSR<|rA J J<|rA J J<|rN<|tS<|tSR<|rM J J<|rM J J<|bndE h fun v1 e1 h=>r_callp J (device_CheckEvents_c e1) (CoL.refl _) J<|rA J J<|rN<|tSR<|rM J J<|ARun.qv (q_neq J J) J<|rN<|ATodo.cond_d J (fun hc=>?_) (fun hc=>?_)
  · refine have h := iteT hc h; tSR<|rM J J<|rA J J<|rA J J<|rN<|ATodo.ret<|?_
    obtain rfl := Option.some.inj h
    exact ImpX.arr (s := 4) 2 J fun b2=>ImpX.here ⟨_,.cons (.tmp _ _ J) (.cons (.tmp _ _ J) .nil),_,.cons .p0 .nil,⟨b2,J,J⟩⟩
  · refine have h := iteF hc h; tK<|tSR<|rA J J<|rN<|tS<|tSR<|rM J J<|bndE h fun v3 e2 h=>t_call1 J (device_known_c e2) (CoL.refl _) .nil (fun _=>J) J fun b4=>t_range (M := v3) (enc := eE5) J (fun _ _=>.p0) J fun b5 Le3 ce3 hLe3 hIe3=>rN<|ATodo.block<|ATodo.loopMap (fun e (x : (List Seen))=>device_Known_b1 e x) (fun x : (List Seen)=>device_Known_f1 x) (fun R x σ'=>∃ (b8 : Bk) (s1m : List Nat),MIter Le3 ce3 s1m (R.map eE5) ∧ σ' = ⟨33,[(7,.sl 2 b8 0 x.length),(18,.ptr b5 0)],[(b5,.mit b4 ce3 s1m),(b4,.mpb Le3 ce3),(b8,aE6 x)]⟩) h ?_ ?_
    · exact ImpX.arr (s := 7) 2 J fun b10=>ImpX.lq [1,1,0] ⟨b10,[],hIe3,J⟩ J J
    · intro R1 l9 σ' J1 hmk hH1 hK1
      obtain ⟨b8, s1m, hI1m, rfl⟩ := hmk
      refine tSR<|t_next J hI1m .p1 (fun _=>.p0) J (fun hN=>?_) (fun v1m R' sv1m hP hlen hIv1m hCv1m=>?_)
      · have h := nilL hH1 hN
        replace h : device_Known_f1 l9 = _ := h
        unfold device_Known_f1 at h
        refine ARun.ghost<|ImpX.mpDone hLe3 .p1<|ImpX.here<|rX J J J<|rN<|tS<|ATodo.cond_f J<|ATodo.exit J<|tSR<|rM J J<|bndE h fun v11 e4 h=>t_call0 J (slices_SortFunc_Seen_Seen_c (fun e=>device_Known_1x_c (GI := strongT) (Option.some.inj e)) (lenOk_f e4)) (CoL.refl _) (.cons .p2 .nil) J J<|ARun.ghost<|ImpX.eqs (s := 7) (av' := .sl 2 b8 0 v11.length) J (congrArg (AV.sl 2 b8 0) (lenOk_l e4))<|ImpX.here<|ARun.ghost<|ImpX.eqs (s := 30) (av' := .sl 2 b8 0 v11.length) J (congrArg (AV.sl 2 b8 0) (lenOk_l e4))<|ImpX.here<|rN<|tSR<|rM J J<|rA J J<|rA J J<|rN<|ATodo.ret<|?_
        obtain rfl := Option.some.inj h
        exact ImpX.here ⟨_,.cons (.tmp _ _ J) (.cons (.tmp _ _ J) .nil),_,.cons .p0 .nil,⟨b8,J,J⟩⟩
      · obtain ⟨z1, h, hN1, hA1⟩ := stepL hH1 hP
        replace h : device_Known_b1 v1m l9 = some z1 := h
        unfold device_Known_b1 at h
        have hJ1 := fun y σ' (e : z1 = .inl y) hi=>hK1 R' y σ' hlen (hN1 y e) hi
        clear hN1 hP hK1 hH1
        refine rX J J J<|rN<|tS<|ATodo.cond_t J<|tK<|ATodo.block<|tSR<|ARun.qv (t_entry J .p0 .p1 hCv1m J J) J<|rX J J J<|rX J J J<|rA J J<|rA J J<|rN<|tR<|rM J J<|rM J J<|rM J J<|ARun.qv (n_build J J J J J) J<|n_buildSliceL (xs := ([(⟨v1m.1,v1m.2⟩ : Seen)]).map Seen.av) J J J J J J<|bndE h fun l12 e5 h=>t_append (g := Seen.av) J J J J J J J J (.list _) e5 (fun _=>.p2) J fun b13=>rA J J<|rN<|ATodo.blk<|ATodo.stop<|?_
        obtain rfl := Option.some.inj h
        exact hJ1 _ _ J<|ImpX.lq [0,0,0] ⟨b13,sv1m,hIv1m,J⟩ J J

theorem device_Since_c {p0x0 : List Model} {p1x0 : List EventS} {p2x0 : List Seen} {r : (List EventS) × Int} (h : device_Since p0x0 p1x0 p2x0 = some r) : ACall Tryz.prog 35 [lE3 p0x0,lE4 p1x0,lE6 p2x0] [] (T1 (fun d_0=>[(d_0,aE4 r.1)]) (fun d_0=>.tup [.sl 16 d_0 0 r.1.length,I r.2])) := by
  unfold device_Since at h
  refine ACall.lessH ?_
  refine ACall.bodyN Tryz.func35 J Tryz.ntmps35 Tryz.results35 J J ?_
  refine tSR<|rA J J<|rA J J<|rN<|tS<|tSR<|rM J J<|rM J J<|bndE h fun v1 e1 h=>r_callp J (device_CheckEvents_c e1) (CoL.refl _) J<|rA J J<|rN<|tSR<|rM J J<|ARun.qv (q_neq J J) J<|rN<|ATodo.cond_d J (fun hc=>?_) (fun hc=>?_)
  · refine have h := iteT hc h; tSR<|rM J J<|rA J J<|rA J J<|rN<|ATodo.ret<|?_
    obtain rfl := Option.some.inj h
    exact ImpX.arr (s := 6) 16 J fun b2=>ImpX.here ⟨_,.cons (.tmp _ _ J) (.cons (.tmp _ _ J) .nil),_,.cons .p0 .nil,⟨b2,J,J⟩⟩
  · refine have h := iteF hc h; tK<|tS<|tSR<|rM J J<|ARun.qv (t_len J) J<|ARun.qv (q_gtr J J) J<|rN<|ATodo.cond_d J (fun hc=>?_) (fun hc=>?_)
    · refine have h := iteT hc h; tSR<|rA J J<|rA J J<|rN<|ATodo.ret<|?_
      obtain rfl := Option.some.inj h
      exact ImpX.arr (s := 6) 16 J fun b3=>ImpX.here ⟨_,.cons (.tmp _ _ J) (.cons (.tmp _ _ J) .nil),_,.cons .p0 .nil,⟨b3,J,J⟩⟩
    · refine have h := iteF hc h; tK<|tSR<|t_makeMap J fun b4=>rA J J<|rN<|tS<|tSR<|rM J J<|ARun.qv (t_len J) J<|rM J J<|rN<|ATodo.block<|ATodo.loopI (fun x : (List (Str × Int)) × Int=>device_Since_b1 p1x0 p2x0 x.1 x.2) (fun x σ'=>σ' = ⟨80,[(1,lE4 p1x0),(2,lE6 p2x0),(9,.mref b4),(25,lE6 p2x0),(26,I (p2x0.length : Int)),(27,I x.2)],[(b4,mE5 x.1)]⟩) h ?_ ?_
      · exact ImpX.lq [0] J J J
      · intro x z1 σ' J1 hmk h hJ1 hA1
        obtain ⟨l7, n8⟩ := x
        obtain rfl := hmk
        replace h : device_Since_b1 p1x0 p2x0 l7 n8 = some z1 := h
        unfold device_Since_b1 at h
        refine tSR<|ARun.qv (q_lss J J) J<|rN<|tS<|ATodo.cond_d J (fun hc=>?_) (fun hc=>?_)
        · refine have h := iteT hc h; tK<|tS<|ATodo.block<|tSR<|rM J J<|bndE h fun v9 e2 h=>ARun.qv (t_index J J J e2 J J) J<|ARun.qv (q_load_rptr_agg J J J) J<|n_alloc J J J J fun b10=>rA J J<|n_store_ptr J J J J .p0 J J<|rN<|tS<|ATodo.block<|tSR<|rF J J J<|rL J J .p0 J J<|bndE h fun v11 e3 h=>r_callp J (base_Key_c e3) (CoL.refl _) J<|ARun.qv (q_not J) J<|rA J J<|rN<|ATodo.cond J (fun hc=>?_) (fun hc=>?_)
          · refine have h := iteT hc h; tSR<|rA J J<|rA J J<|rN<|ATodo.ret<|have h := outL h hA1; ?_
            obtain rfl := Option.some.inj h
            exact ImpX.arr (s := 6) 16 J fun b12=>ImpX.here ⟨_,.cons (.tmp _ _ J) (.cons (.tmp _ _ J) .nil),_,.cons .p0 .nil,⟨b12,J,J⟩⟩
          · refine have h := iteFb hc h; tS<|ATodo.cut (fun σ'=>∃ (c13 : Bool),device_Since_j1 l7 n8 v9 c13 = some z1 ∧ σ' = ⟨80,[(1,lE4 p1x0),(2,lE6 p2x0),(9,.mref b4),(11,.ptr b10 0),(25,lE6 p2x0),(26,I (p2x0.length : Int)),(27,I n8),(37,.bool c13)],[(b4,mE5 l7),(b10,.cells [.str v9.Hub,I v9.No])]⟩) ?_ ?_
            · refine ATodo.regionM (id := 12) (A := [0,1,3,7,15,7,7,71,231,487,999,2047,4095,8191]) 14 mixed J (by kernel_rfl) (by kernel_rfl)<|AM.qv (q_move J) J<|AM.qv (q_gtr J J) J<|AM.qv (q_move J) J<|AM.guard_dt J J J (fun hc=>?_) (fun hc=>?_)
              · exact have h := iteT hc h; AM.qv (n_field_ptr J J) J<|AM.guard_yes J J J<|AM.qv (q_load_ptr J J .p0 J) J<|AM.guard_yes J J J<|AM.qv (q_move J) J<|AM.guard_yes J J J<|AM.qv (q_move J) J<|AM.guard_yes J J J<|AM.qv (q_subw J J) J<|AM.guard_yes J J J<|bndE h fun v14 e4 h=>AM.qv (t_index J J J e4 J J) J<|AM.guard_yes J J J<|AM.qv (n_field_rptr J J) J<|AM.guard_yes J J J<|AM.qv (q_load_rptr J J J) J<|AM.guard_yes J J J<|AM.qv (t_sleq J J) J<|AM.qv (q_pick_t J J) J<|AM.qv (q_assign J) J<|AM.nil<|rN<|ATodo.stop<|ImpX.lq [1,0] ⟨Op.bytesLess v9.Hub v14.Hub || v9.Hub == v14.Hub,h,J⟩ J J
              · exact have h := iteF hc h; AM.guard_no J J J J<|AM.guard_no J J J J<|AM.guard_no J J J J<|AM.guard_no J J J J<|AM.guard_no J J J J<|AM.guard_no J J J J<|AM.guard_no J J J J<|AM.guard_no J J J J<|AM.qv (q_pick_f J J) J<|AM.qv (q_assign J) J<|AM.nil<|rN<|ATodo.stop<|ImpX.lq [1,0] ⟨false,h,J⟩ J J
            · rintro σ' ⟨c13, h, rfl⟩
              unfold device_Since_j1 at h
              refine ATodo.cond J (fun hc=>?_) (fun hc=>?_)
              · refine have h := iteT hc h; tSR<|rA J J<|rA J J<|rN<|ATodo.ret<|have h := outL h hA1; ?_
                obtain rfl := Option.some.inj h
                exact ImpX.arr (s := 6) 16 J fun b15=>ImpX.here ⟨_,.cons (.tmp _ _ J) (.cons (.tmp _ _ J) .nil),_,.cons .p0 .nil,⟨b15,J,J⟩⟩
              · refine have h := iteFb hc h; tSR<|rF J J J<|rL J J .p1 J J<|r_callp J (base_Out_c J) (CoL.refl _) J<|rA J J<|rN<|ATodo.cond J (fun hc=>?_) (fun hc=>?_)
                · refine have h := iteT hc h; tSR<|rA J J<|rA J J<|rN<|ATodo.ret<|have h := outL h hA1; ?_
                  obtain rfl := Option.some.inj h
                  exact ImpX.arr (s := 6) 16 J fun b16=>ImpX.here ⟨_,.cons (.tmp _ _ J) (.cons (.tmp _ _ J) .nil),_,.cons .p0 .nil,⟨b16,J,J⟩⟩
                · refine have h := iteFb hc h; tK<|ATodo.blk<|tR<|rM J J<|rF J J J<|rL J J .p1 J J<|rF J J J<|rL J J .p1 J J<|t_mapUpdate (gk := AV.str) (gv := I) (M := l7) (key := v9.Hub) (v := v9.No) J J J J .p0<|rN<|ATodo.blk<|tR<|ARun.qv (q_addw J J) J<|rM J J<|rN<|ATodo.stop<|?_
                  obtain rfl := Option.some.inj h
                  exact hJ1 _ _ J<|ImpX.lq [0] J J J
        · refine have h := iteF hc h; ATodo.exit J<|have h := outL h hA1; tSR<|rA J J<|rN<|tS<|tSR<|rM J J<|ARun.qv (t_len J) J<|rM J J<|rN<|ATodo.block<|ATodo.loopI (fun x : (List EventS) × Int=>device_Since_b2 p1x0 l7 x.1 x.2) (fun x σ'=>∃ (b20 : Bk),σ' = ⟨80,[(9,.mref b4),(12,.sl 16 b20 0 x.1.length),(61,lE4 p1x0),(62,I (p1x0.length : Int)),(63,I x.2)],[(b4,mE5 l7),(b20,aE4 x.1)]⟩) h ?_ ?_
          · exact ImpX.arr (s := 12) 16 J fun b23=>ImpX.lq [1,0] ⟨b23,J⟩ J J
          · intro x z2 σ' J2 hmk h hJ2 hA2
            obtain ⟨l21, n22⟩ := x
            obtain ⟨b20, rfl⟩ := hmk
            replace h : device_Since_b2 p1x0 l7 l21 n22 = some z2 := h
            unfold device_Since_b2 at h
            refine tSR<|ARun.qv (q_lss J J) J<|rN<|tS<|ATodo.cond_d J (fun hc=>?_) (fun hc=>?_)
            · refine have h := iteT hc h; tK<|tS<|ATodo.block<|tSR<|bndE h fun v24 e5 h=>ARun.qv (t_index J J J e5 J J) J<|ARun.qv (q_load_rptr_agg J J J) J<|n_alloc J J J J fun b25=>n_store_ptr J J J J .p0 J J<|rN<|tSR<|rF J J J<|rL J J .p0 J J<|rM J J<|rF J J J<|rL J J .p0 J J<|bndE h fun v26 e6 h=>ARun.qv (t_lookup (gk := AV.str) (gv := I) (M := l7) (key := v24.Hub) (Z := (0 : Int)) J J .p1 J J J e6 J) J<|ARun.qv (q_gtr J J) J<|rN<|ATodo.cut (fun σ'=>∃ (b27 : Bk) (l28 : List EventS),device_Since_j2 n22 l28 = some z2 ∧ σ' = ⟨80,[(9,.mref b4),(12,.sl 16 b27 0 l28.length),(61,lE4 p1x0),(62,I (p1x0.length : Int)),(63,I n22)],[(b4,mE5 l7),(b27,aE4 l28)]⟩) ?_ ?_
              · refine ATodo.cond_d J (fun hc=>?_) (fun hc=>?_)
                · exact have h := iteT hc h; tR<|rM J J<|ARun.qv (q_load_ptr_all J J .p0 J) J<|n_buildSliceL (xs := ([v24] : List EventS).map EventS.av) J J J J J J<|bndE h fun l29 e7 h=>t_append (g := EventS.av) J J J J J J J J (.list _) e7 (fun _=>.p2) J fun b30=>rA J J<|rN<|ATodo.stop<|ImpX.lq [1,1] ⟨b30,l29,h,J⟩ J J
                · exact have h := iteF hc h; tK<|ATodo.stop<|ImpX.lq [1,1] ⟨b20,l21,h,J⟩ J J
              · rintro σ' ⟨b27, l28, h, rfl⟩
                unfold device_Since_j2 at h
                refine ATodo.blk<|tR<|ARun.qv (q_addw J J) J<|rM J J<|rN<|ATodo.stop<|?_
                obtain rfl := Option.some.inj h
                exact hJ2 _ _ J<|ImpX.lq [0,0] ⟨b27,J⟩ J J
            · refine have h := iteF hc h; ATodo.exit J<|have h := outL h hA2; tSR<|rM J J<|rA J J<|rA J J<|rN<|ATodo.ret<|?_
              obtain rfl := Option.some.inj h
              exact ImpX.here ⟨_,.cons (.tmp _ _ J) (.cons (.tmp _ _ J) .nil),_,.cons .p1 .nil,⟨b20,J,J⟩⟩

theorem device_Learn_c {p0x0 : List Model} {p1x0 : List EventS} {p2x0 : List EventS} {r : (List EventS) × Int} (h : device_Learn p0x0 p1x0 p2x0 = some r) : ACall Tryz.prog 36 [lE3 p0x0,lE4 p1x0,lE4 p2x0] [] (T1 (fun d_0=>[(d_0,aE4 r.1)]) (fun d_0=>.tup [.sl 16 d_0 0 r.1.length,I r.2])) := by
  unfold device_Learn at h
  refine ACall.lessH ?_
  refine ACall.bodyN Tryz.func36 J Tryz.ntmps36 Tryz.results36 J J ?_
  refine tSR<|rA J J<|rA J J<|rN<|tS<|tSR<|rM J J<|rM J J<|bndE h fun v1 e1 h=>r_callp J (device_CheckEvents_c e1) (CoL.refl _) J<|rA J J<|rN<|tSR<|rM J J<|ARun.qv (q_neq J J) J<|rN<|ATodo.cond_d J (fun hc=>?_) (fun hc=>?_)
  · refine have h := iteT hc h; tSR<|rM J J<|rA J J<|rA J J<|rN<|ATodo.ret<|?_
    obtain rfl := Option.some.inj h
    exact ImpX.arr (s := 6) 16 J fun b2=>ImpX.here ⟨_,.cons (.tmp _ _ J) (.cons (.tmp _ _ J) .nil),_,.cons .p0 .nil,⟨b2,J,J⟩⟩
  · refine have h := iteF hc h; tK<|tS<|tSR<|rM J J<|ARun.qv (t_len J) J<|ARun.qv (q_gtr J J) J<|rN<|ATodo.cond_d J (fun hc=>?_) (fun hc=>?_)
    · refine have h := iteT hc h; tSR<|rA J J<|rA J J<|rN<|ATodo.ret<|?_
      obtain rfl := Option.some.inj h
      exact ImpX.arr (s := 6) 16 J fun b3=>ImpX.here ⟨_,.cons (.tmp _ _ J) (.cons (.tmp _ _ J) .nil),_,.cons .p0 .nil,⟨b3,J,J⟩⟩
    · refine have h := iteF hc h; tK<|tSR<|t_makeMap J fun b4=>rA J J<|rN<|tS<|tSR<|rM J J<|ARun.qv (t_len J) J<|rM J J<|rN<|ATodo.block<|ATodo.loopI (fun x : (List (Device_place × EventS)) × Int=>device_Learn_b1 p0x0 p1x0 p2x0 x.1 x.2) (fun x σ'=>σ' = ⟨73,[(0,lE3 p0x0),(1,lE4 p1x0),(2,lE4 p2x0),(9,.mref b4),(28,lE4 p1x0),(29,I (p1x0.length : Int)),(30,I x.2)],[(b4,mE10 x.1)]⟩) h ?_ ?_
      · exact ImpX.lq [0] J J J
      · intro x z1 σ' J1 hmk h hJ1 hA1
        obtain ⟨l7, n8⟩ := x
        obtain rfl := hmk
        replace h : device_Learn_b1 p0x0 p1x0 p2x0 l7 n8 = some z1 := h
        unfold device_Learn_b1 at h
        refine tSR<|ARun.qv (q_lss J J) J<|rN<|tS<|ATodo.cond_d J (fun hc=>?_) (fun hc=>?_)
        · refine have h := iteT hc h; tK<|tS<|ATodo.block<|tSR<|bndE h fun v9 e2 h=>ARun.qv (t_index J J J e2 J J) J<|ARun.qv (q_load_rptr_agg J J J) J<|n_alloc J J J J fun b10=>n_store_ptr J J J J .p0 J J<|rN<|tR<|rM J J<|rF J J J<|rL J J .p0 J J<|rF J J J<|rL J J .p0 J J<|ARun.qv (n_build J J J J J) J<|ARun.qv (q_load_ptr_all J J .p0 J) J<|t_mapUpdate (gk := Device_place.av) (gv := EventS.av) (M := l7) (key := (⟨v9.Hub,v9.No⟩ : Device_place)) (v := v9) J J J J .p1<|rN<|ATodo.blk<|tR<|ARun.qv (q_addw J J) J<|rM J J<|rN<|ATodo.stop<|?_
          obtain rfl := Option.some.inj h
          exact hJ1 _ _ J<|ImpX.lq [1] J J J
        · refine have h := iteF hc h; ATodo.exit J<|have h := outL h hA1; ?_
          unfold device_Learn_k2 at h
          refine tSR<|rM J J<|bndE h fun v11 e3 h=>t_call1 J (slices_Clone_Event_Event_c e3) (CoL.refl _) .nil (fun _=>J) J fun b12=>rA J J<|rN<|tS<|tSR<|rM J J<|ARun.qv (t_len J) J<|rM J J<|rN<|ATodo.block<|ATodo.loopI (fun x : (List (Device_place × EventS)) × (List EventS) × Int=>device_Learn_b2 p0x0 p2x0 x.1 x.2.1 x.2.2) (fun x σ'=>∃ (b18 : Bk),σ' = ⟨73,[(0,lE3 p0x0),(9,.mref b4),(12,.sl 16 b18 0 x.2.1.length),(44,lE4 p2x0),(45,I (p2x0.length : Int)),(46,I x.2.2)],[(b4,mE10 x.1),(b18,aE4 x.2.1)]⟩) h ?_ ?_
          · exact ImpX.lq [1,0] ⟨b12,J⟩ J J
          · intro x z2 σ' J2 hmk h hJ2 hA2
            obtain ⟨l17, l19, n20⟩ := x
            obtain ⟨b18, rfl⟩ := hmk
            replace h : device_Learn_b2 p0x0 p2x0 l17 l19 n20 = some z2 := h
            unfold device_Learn_b2 at h
            refine tSR<|ARun.qv (q_lss J J) J<|rN<|tS<|ATodo.cond_d J (fun hc=>?_) (fun hc=>?_)
            · refine have h := iteT hc h; tK<|tS<|ATodo.block<|tSR<|bndE h fun v21 e4 h=>ARun.qv (t_index J J J e4 J J) J<|ARun.qv (q_load_rptr_agg J J J) J<|n_alloc J J J J fun b22=>n_store_ptr J J J J .p0 J J<|rN<|tS<|tSR<|rM J J<|ARun.qv (q_load_ptr_all J J .p0 J) J<|bndE h fun v23 e5 h=>r_callp J (device_eventFault_c e5) (CoL.refl _) J<|rA J J<|rN<|tSR<|rM J J<|ARun.qv (q_neq J J) J<|rN<|ATodo.cond_d J (fun hc=>?_) (fun hc=>?_)
              · refine have h := iteT hc h; tSR<|rM J J<|rA J J<|rA J J<|rN<|ATodo.ret<|have h := outL h hA2; ?_
                obtain rfl := Option.some.inj h
                exact ImpX.arr (s := 6) 16 J fun b24=>ImpX.here ⟨_,.cons (.tmp _ _ J) (.cons (.tmp _ _ J) .nil),_,.cons .p0 .nil,⟨b24,J,J⟩⟩
              · refine have h := iteF hc h; tK<|tSR<|rM J J<|rM J J<|ARun.qv (q_load_ptr_all J J .p0 J) J<|bndE h fun v25 e6 h=>t_call1 J (device_put_o1x_c e6) (CoL.refl _) (.cons .p1 (.cons .p1 .nil)) (fun _=>J) J fun b26=>rM J J<|rX J J J<|rX J J J<|rA J J<|rA J J<|rN<|tS<|tSR<|rM J J<|ARun.qv (q_neq J J) J<|rN<|ATodo.cond_d J (fun hc=>?_) (fun hc=>?_)
                · refine have h := iteT hc h; tSR<|rM J J<|rA J J<|rA J J<|rN<|ATodo.ret<|have h := outL h hA2; ?_
                  obtain rfl := Option.some.inj h
                  exact ImpX.arr (s := 6) 16 J fun b27=>ImpX.here ⟨_,.cons (.tmp _ _ J) (.cons (.tmp _ _ J) .nil),_,.cons .p0 .nil,⟨b27,J,J⟩⟩
                · refine have h := iteF hc h; tK<|tR<|rM J J<|rA J J<|rN<|ATodo.blk<|tR<|ARun.qv (q_addw J J) J<|rM J J<|rN<|ATodo.stop<|?_
                  obtain rfl := Option.some.inj h
                  exact hJ2 _ _ J<|ImpX.lq [0,0] ⟨b26,J⟩ J J
            · refine have h := iteF hc h; ATodo.exit J<|have h := outL h hA2; ?_
              unfold device_Learn_k1 at h
              refine tSR<|rM J J<|rM J J<|bndE h fun v28 e7 h=>t_call1 J (device_sorted_c e7) (CoL.refl _) (.cons .p1 .nil) (fun _=>J) J fun b29=>rX J J J<|rX J J J<|rA J J<|rA J J<|rN<|ATodo.ret<|?_
              obtain rfl := Option.some.inj h
              exact ImpX.here ⟨_,.cons (.tmp _ _ J) (.cons (.tmp _ _ J) .nil),_,.cons .p0 .nil,⟨b29,J,J⟩⟩

theorem Q_LearnOf_1x_c [GI : GTab] {p0x0 : EventS} {p1x0 : EventS} {r : Bool} (h : Q_LearnOf_1x p0x0 p1x0 = r) : Pu Tryz.prog 99 [EventS.av p0x0,.rptr [.str p1x0.Hub,I p1x0.No,I p1x0.Clock,I p1x0.At,I p1x0.Kind,.str p1x0.Device,.str p1x0.Model,.str p1x0.Tenant,I p1x0.Serial,.str p1x0.Key,.str p1x0.Name,.str p1x0.Value,I p1x0.Until,I p1x0.Firmware.Major,I p1x0.Firmware.Minor,I p1x0.Firmware.Patch]] (.bool r) := by
  unfold Q_LearnOf_1x at h
  refine ACall.bodyN Tryz.func99 J Tryz.ntmps99 Tryz.results99 J J ?_
  refine tSR<|n_box J J J J fun b1=>rA J J<|rN<|tS<|ATodo.cut (fun σ'=>∃ (c2 : Bool),Q_LearnOf_1x_j1 c2 = r ∧ σ' = ⟨16,[(3,.bool c2)],[]⟩) ?_ ?_
  · refine tR<|rF J J J<|rL J J .p0 J J<|ARun.qv (n_field_rptr J J) J<|ARun.qv (q_load_rptr J J J) J<|ARun.qv (q_seq J J) J<|rM J J<|ARun.guard_dt J J J (fun hc=>?_) (fun hc=>?_)
    · rw [andTd hc] at h
      exact rF J J J<|rY J J J<|rL J J .p0 J J<|rY J J J<|ARun.qv (n_field_rptr J J) J<|rY J J J<|ARun.qv (q_load_rptr J J J) J<|rY J J J<|ARun.qv (q_eql J J) J<|rT J J J<|rA J J<|rN<|ATodo.stop<|ImpX.lq [] ⟨decide (p0x0.No = p1x0.No),h,J⟩ J J
    · rw [andFd hc] at h
      exact rG J J J J<|rG J J J J<|rG J J J J<|rG J J J J<|rE J J J<|rA J J<|rN<|ATodo.stop<|ImpX.lq [] ⟨false,h,J⟩ J J
  · rintro σ' ⟨c2, h, rfl⟩
    unfold Q_LearnOf_1x_j1 at h
    refine ATodo.ret<|?_
    obtain rfl := h
    exact ImpX.here ⟨_,.cons (.tmp _ _ J) .nil,J⟩

theorem slices_IndexFunc_Event_Event_c [GI : GTab] {p0x0 : List EventS} {fnb : EventS → Option Bool} {fnb_F : FuncId} [IsFn Tryz.prog fnb_F] {fnb_C : List AV} (fnb_h : ∀ {y0 : _} {u : Bool},fnb y0 = some u → Pu Tryz.prog fnb_F (EventS.av y0 ::  fnb_C) (.bool u)) {r : Int} (h : slices_IndexFunc_Event_Event p0x0 fnb = some r) : Pu Tryz.prog 98 [lE4 p0x0,.func (.func fnb_F) fnb_C] (I r) := by
  unfold slices_IndexFunc_Event_Event at h
  refine ACall.bodyN Tryz.func98 J Tryz.ntmps98 Tryz.results98 J J ?_
  refine tSR<|rA J J<|rN<|tS<|tSR<|rM J J<|ARun.qv (t_len J) J<|rM J J<|rN<|ATodo.block<|ATodo.loopI (fun x : Int=>slices_IndexFunc_Event_Event_b1 p0x0 fnb x) (fun x σ'=>σ' = ⟨19,[(0,lE4 p0x0),(1,.func (.func fnb_F) fnb_C),(7,I (p0x0.length : Int)),(8,I x)],[]⟩) h ?_ ?_
  · exact ImpX.lq [] J J J
  · intro n2 z1 σ' J1 hmk h hJ1 hA1
    obtain rfl := hmk
    replace h : slices_IndexFunc_Event_Event_b1 p0x0 fnb n2 = some z1 := h
    unfold slices_IndexFunc_Event_Event_b1 at h
    refine tSR<|ARun.qv (q_lss J J) J<|rN<|tS<|ATodo.cond_d J (fun hc=>?_) (fun hc=>?_)
    · refine have h := iteT hc h; tK<|tS<|ATodo.block<|tSR<|rM J J<|rA J J<|rN<|tSR<|rM J J<|rM J J<|rM J J<|bndE h fun v3 e1 h=>ARun.qv (t_index J J J e1 J J) J<|ARun.qv (q_load_rptr_agg J J J) J<|bndE h fun v4 e2 h=>r_callvp J J (fnb_h e2) (CoL.refl _) J<|rN<|ATodo.cond J (fun hc=>?_) (fun hc=>?_)
      · refine have h := iteT hc h; tSR<|rM J J<|rA J J<|rN<|ATodo.ret<|have h := outL h hA1; ?_
        obtain rfl := Option.some.inj h
        exact ImpX.here ⟨_,.cons (.tmp _ _ J) .nil,J⟩
      · refine have h := iteFb hc h; tK<|ATodo.blk<|tR<|ARun.qv (q_addw J J) J<|rM J J<|rN<|ATodo.stop<|?_
        obtain rfl := Option.some.inj h
        exact hJ1 _ _ J<|ImpX.lq [] J J J
    · refine have h := iteF hc h; ATodo.exit J<|have h := outL h hA1; tSR<|rA J J<|rN<|ATodo.ret<|?_
      obtain rfl := Option.some.inj h
      exact ImpX.here ⟨_,.cons (.tmp _ _ J) .nil,J⟩

theorem Q_LearnOf_c {p0x0 : List Model} {p1x0 : List EventS} {p2x0 : List EventS} {r : (List EventS) × Int} (h : Q_LearnOf p0x0 p1x0 p2x0 = some r) : ACall Tryz.prog 37 [lE3 p0x0,lE4 p1x0,lE4 p2x0] [] (T1 (fun d_0=>[(d_0,aE4 r.1)]) (fun d_0=>.tup [.sl 16 d_0 0 r.1.length,I r.2])) := by
  unfold Q_LearnOf at h
  refine ACall.lessH ?_
  refine ACall.bodyN Tryz.func37 J Tryz.ntmps37 Tryz.results37 J J ?_
  refine tSR<|rA J J<|rA J J<|rN<|tSR<|rM J J<|bndE h fun v1 e1 h=>t_call1 J (slices_Clone_Event_Event_c e1) (CoL.refl _) .nil (fun _=>J) J fun b2=>rA J J<|rN<|tS<|tSR<|rM J J<|ARun.qv (t_len J) J<|rM J J<|rN<|ATodo.block<|ATodo.loopI (fun x : (List EventS) × Int=>Q_LearnOf_b1 p0x0 p2x0 x.1 x.2) (fun x σ'=>∃ (b6 : Bk),σ' = ⟨55,[(0,lE3 p0x0),(8,.sl 16 b6 0 x.1.length),(16,lE4 p2x0),(17,I (p2x0.length : Int)),(18,I x.2)],[(b6,aE4 x.1)]⟩) h ?_ ?_
  · exact ImpX.lq [0] ⟨b2,J⟩ J J
  · intro x z1 σ' J1 hmk h hJ1 hA1
    obtain ⟨l7, n8⟩ := x
    obtain ⟨b6, rfl⟩ := hmk
    replace h : Q_LearnOf_b1 p0x0 p2x0 l7 n8 = some z1 := h
    unfold Q_LearnOf_b1 at h
    refine tSR<|ARun.qv (q_lss J J) J<|rN<|tS<|ATodo.cond_d J (fun hc=>?_) (fun hc=>?_)
    · refine have h := iteT hc h; tK<|tS<|ATodo.block<|tSR<|bndE h fun v9 e2 h=>ARun.qv (t_index J J J e2 J J) J<|ARun.qv (q_load_rptr_agg J J J) J<|n_alloc J J J J fun b10=>n_store_ptr J J J J .p0 J J<|rN<|tS<|tSR<|rM J J<|ARun.qv (q_load_ptr_all J J .p0 J) J<|bndE h fun v11 e3 h=>r_callp J (Q_EventFault_c e3) (CoL.refl _) J<|rA J J<|rN<|tSR<|rM J J<|ARun.qv (q_neq J J) J<|rN<|ATodo.cond_d J (fun hc=>?_) (fun hc=>?_)
      · refine have h := iteT hc h; tSR<|rM J J<|rA J J<|rA J J<|rN<|ATodo.ret<|have h := outL h hA1; ?_
        obtain rfl := Option.some.inj h
        exact ImpX.arr (s := 6) 16 J fun b12=>ImpX.here ⟨_,.cons (.tmp _ _ J) (.cons (.tmp _ _ J) .nil),_,.cons .p0 .nil,⟨b12,J,J⟩⟩
      · refine have h := iteF hc h; tK<|tSR<|rM J J<|ARun.qv (q_makeFunc J) J<|bndE h fun v13 e4 h=>r_callpB J (slices_IndexFunc_Event_Event_c (fun e=>Q_LearnOf_1x_c (Option.some.inj e)) e4) (.cons (CoB.arrT .p1) (.cons (.funcL _ _ _ (.cons (.boxL _ _ _ .p0 (.cons (.co (.refl _)) (.cons (.co (.refl _)) (.cons (.co (.refl _)) (.cons (.co (.refl _)) (.cons (.co (.refl _)) (.cons (.co (.refl _)) (.cons (.co (.refl _)) (.cons (.co (.refl _)) (.cons (.co (.refl _)) (.cons (.co (.refl _)) (.cons (.co (.refl _)) (.cons (.co (.refl _)) (.cons (.co (.refl _)) (.cons (.co (.refl _)) (.cons (.co (.refl _)) (.cons (.co (.refl _)) .nil))))))))))))))))) .nil)) .nil)) J J<|rA J J<|rN<|ATodo.block<|tSR<|rM J J<|ARun.qv (q_lss J J) J<|rA J J<|rN<|ATodo.cut (fun σ'=>∃ (b14 : Bk) (l15 : List EventS),Q_LearnOf_j1 n8 l15 = some z1 ∧ σ' = ⟨55,[(0,lE3 p0x0),(8,.sl 16 b14 0 l15.length),(16,lE4 p2x0),(17,I (p2x0.length : Int)),(18,I n8)],[(b14,aE4 l15)]⟩) ?_ ?_
        · refine ATodo.cond_d J (fun hc=>?_) (fun hc=>?_)
          · exact have h := iteT hc h; tR<|rM J J<|ARun.qv (q_load_ptr_all J J .p0 J) J<|n_buildSliceL (xs := ([v9] : List EventS).map EventS.av) J J J J J J<|bndE h fun l16 e5 h=>t_append (g := EventS.av) J J J J J J J J (.list _) e5 (fun _=>.p1) J fun b17=>rA J J<|rN<|ATodo.stop<|ImpX.lq [1] ⟨b17,l16,h,J⟩ J J
          · refine have h := iteF hc h; tS<|ATodo.regionM (id := 11) (A := [0,0,3,7,0,31,63]) 7 mixed J (by kernel_rfl) (by kernel_rfl)<|AM.qv (q_move J) J<|AM.qv (q_move J) J<|bndE h fun v18 e6 h=>AM.qv (t_index_sl J J J e6) J<|AM.qv (t_load_aptr_agg (g := EventS.av) J J (.inl .p1) J e6 J) J<|AM.qv (q_load_ptr_all J J .p0 J) J<|AM.qv (t_tne (g := EventS.av) (X := v18) (Y := v9) J J J J J) J<|AM.qv (q_assign J) J<|AM.nil<|rN<|ATodo.cond_d J (fun hc=>?_) (fun hc=>?_)
            · refine have h := iteT hc h; tSR<|rA J J<|rA J J<|rN<|ATodo.ret<|have h := outL h hA1; ?_
              obtain rfl := Option.some.inj h
              exact ImpX.arr (s := 6) 16 J fun b19=>ImpX.here ⟨_,.cons (.tmp _ _ J) (.cons (.tmp _ _ J) .nil),_,.cons .p0 .nil,⟨b19,J,J⟩⟩
            · exact have h := iteF hc h; tK<|ATodo.stop<|ImpX.lq [1] ⟨b6,l7,h,J⟩ J J
        · rintro σ' ⟨b14, l15, h, rfl⟩
          unfold Q_LearnOf_j1 at h
          refine ATodo.blk<|ATodo.blk<|tR<|ARun.qv (q_addw J J) J<|rM J J<|rN<|ATodo.stop<|?_
          obtain rfl := Option.some.inj h
          exact hJ1 _ _ J<|ImpX.lq [0] ⟨b14,J⟩ J J
    · refine have h := iteF hc h; ATodo.exit J<|have h := outL h hA1; ?_
      unfold Q_LearnOf_k2 at h
      refine tSR<|rM J J<|bndE h fun v20 e7 h=>t_call0 J (slices_SortFunc_Event_Event_c (fun e=>Q_EventOrder_c (GI := strongT) e) (lenOk_f e7)) (CoL.refl _) (.cons .p0 .nil) J J<|ARun.ghost<|ImpX.eqs (s := 8) (av' := .sl 16 b6 0 v20.length) J (congrArg (AV.sl 16 b6 0) (lenOk_l e7))<|ImpX.here<|ARun.ghost<|ImpX.eqs (s := 46) (av' := .sl 16 b6 0 v20.length) J (congrArg (AV.sl 16 b6 0) (lenOk_l e7))<|ImpX.here<|rN<|tS<|tSR<|rM J J<|rM J J<|bndE h fun v21 e8 h=>r_callpB J (Q_EventsFault_c e8) (.cons (.co (.refl _)) (.cons (CoB.arrT .p0) .nil)) J J<|rA J J<|rN<|tSR<|rM J J<|ARun.qv (q_neq J J) J<|rN<|ATodo.cond_d J (fun hc=>?_) (fun hc=>?_)
      · refine have h := iteT hc h; tSR<|rM J J<|rA J J<|rA J J<|rN<|ATodo.ret<|?_
        obtain rfl := Option.some.inj h
        exact ImpX.arr (s := 6) 16 J fun b22=>ImpX.here ⟨_,.cons (.tmp _ _ J) (.cons (.tmp _ _ J) .nil),_,.cons .p0 .nil,⟨b22,J,J⟩⟩
      · refine have h := iteF hc h; tK<|tSR<|rM J J<|rA J J<|rA J J<|rN<|ATodo.ret<|?_
        obtain rfl := Option.some.inj h
        exact ImpX.here ⟨_,.cons (.tmp _ _ J) (.cons (.tmp _ _ J) .nil),_,.cons .p0 .nil,⟨b6,J,J⟩⟩

theorem L_when_c [GI : GTab] {p0x0 : Bool} {p1x0 : Int} {r : Int} (h : L_when p0x0 p1x0 = r) : Pu Tryz.prog 22 [.bool p0x0,I p1x0] (I r) := by
  unfold L_when at h
  refine ACall.bodyN Tryz.func22 J Tryz.ntmps22 Tryz.results22 J J ?_
  refine tSR<|rA J J<|rN<|tS<|tSR<|rM J J<|rN<|ATodo.cond J (fun hc=>?_) (fun hc=>?_)
  · refine have h := iteT hc h; tSR<|rM J J<|rA J J<|rN<|ATodo.ret<|?_
    obtain rfl := h
    exact ImpX.here ⟨_,.cons (.tmp _ _ J) .nil,J⟩
  · refine have h := iteFb hc h; tK<|tSR<|rA J J<|rN<|ATodo.ret<|?_
    obtain rfl := h
    exact ImpX.here ⟨_,.cons (.tmp _ _ J) .nil,J⟩

theorem slices_Equal_Event_Event_c [GI : GTab] {p0x0 : List EventS} {p1x0 : List EventS} {r : Bool} (h : slices_Equal_Event_Event p0x0 p1x0 = some r) : Pu Tryz.prog 38 [lE4 p0x0,lE4 p1x0] (.bool r) := by
  unfold slices_Equal_Event_Event at h
  refine ACall.bodyN Tryz.func38 J Tryz.ntmps38 Tryz.results38 J J ?_
  refine tSR<|rA J J<|rN<|tS<|tSR<|rM J J<|ARun.qv (t_len J) J<|rM J J<|ARun.qv (t_len J) J<|ARun.qv (q_neq J J) J<|rN<|ATodo.cond_d J (fun hc=>?_) (fun hc=>?_)
  · refine have h := iteT hc h; tSR<|rA J J<|rN<|ATodo.ret<|?_
    obtain rfl := Option.some.inj h
    exact ImpX.here ⟨_,.cons (.tmp _ _ J) .nil,J⟩
  · refine have h := iteF hc h; tK<|tS<|tSR<|rM J J<|ARun.qv (t_len J) J<|rM J J<|rN<|ATodo.block<|ATodo.loopI (fun x : Int=>slices_Equal_Event_Event_b1 p0x0 p1x0 x) (fun x σ'=>σ' = ⟨26,[(0,lE4 p0x0),(1,lE4 p1x0),(12,I (p0x0.length : Int)),(13,I x)],[]⟩) h ?_ ?_
    · exact ImpX.lq [] J J J
    · intro n2 z1 σ' J1 hmk h hJ1 hA1
      obtain rfl := hmk
      replace h : slices_Equal_Event_Event_b1 p0x0 p1x0 n2 = some z1 := h
      unfold slices_Equal_Event_Event_b1 at h
      refine tSR<|ARun.qv (q_lss J J) J<|rN<|tS<|ATodo.cond_d J (fun hc=>?_) (fun hc=>?_)
      · refine have h := iteT hc h; tK<|tS<|ATodo.block<|tSR<|rM J J<|rA J J<|rN<|tS<|ATodo.regionM (id := 6) (A := [0,0,3,7,0,0,48,112,255]) 9 mixed J (by kernel_rfl) (by kernel_rfl)<|AM.qv (q_move J) J<|AM.qv (q_move J) J<|bndE h fun v3 e1 h=>AM.qv (t_index J J J e1 J J) J<|AM.qv (q_load_rptr_agg J J J) J<|AM.qv (q_move J) J<|AM.qv (q_move J) J<|bndE h fun v4 e2 h=>AM.qv (t_index J J J e2 J J) J<|AM.qv (q_load_rptr_agg J J J) J<|AM.qv (t_tne (g := EventS.av) (X := v3) (Y := v4) J J J J J) J<|AM.nil<|rN<|ATodo.cond_d J (fun hc=>?_) (fun hc=>?_)
        · refine have h := iteT hc h; tSR<|rA J J<|rN<|ATodo.ret<|have h := outL h hA1; ?_
          obtain rfl := Option.some.inj h
          exact ImpX.here ⟨_,.cons (.tmp _ _ J) .nil,J⟩
        · refine have h := iteF hc h; tK<|ATodo.blk<|tR<|ARun.qv (q_addw J J) J<|rM J J<|rN<|ATodo.stop<|?_
          obtain rfl := Option.some.inj h
          exact hJ1 _ _ J<|ImpX.lq [] J J J
      · refine have h := iteF hc h; ATodo.exit J<|have h := outL h hA1; tSR<|rA J J<|rN<|ATodo.ret<|?_
        obtain rfl := Option.some.inj h
        exact ImpX.here ⟨_,.cons (.tmp _ _ J) .nil,J⟩

theorem slices_Clone_string_string_c [GI : GTab] {p0x0 : List Str} {r : (List Str)} (h : slices_Clone_string_string p0x0 = some r) : ACall Tryz.prog 164 [.list 1 (p0x0.map AV.str)] [] (T1 (fun d_0=>[(d_0,.arr 1 (r.map AV.str))]) (fun d_0=>.sl 1 d_0 0 r.length)) := by
  unfold slices_Clone_string_string at h
  refine ACall.lessH ?_
  refine ACall.bodyN Tryz.func164 J Tryz.ntmps164 Tryz.results164 J J ?_
  refine ATodo.seq ?_
  refine ATodo.region ?_
  refine ARun.qv (q_assign J) J ?_
  refine ARun.nil ?_
  refine ATodo.seq ?_
  refine ATodo.seq ?_
  refine ATodo.region ?_
  refine ARun.qv (q_move J) J ?_
  refine r_eqnil J J J J (fun c hc=>?_)
  refine ARun.nil ?_
  refine ATodo.cond J (fun hT=>?_) (fun hF=>?_)
  · obtain rfl := app_nil_some h (List.map_eq_nil_iff.1 (hc hT))
    refine ATodo.seq ?_
    refine ATodo.region ?_
    refine ARun.qv (q_assign J) J ?_
    refine ARun.nil ?_
    refine ATodo.ret ?_
    refine ImpX.arr (s := 2) 1 J (fun b1=>?_)
    exact ImpX.here ⟨_,.cons (.tmp _ _ J) .nil,_,.cons .here .nil,⟨b1,J,J⟩⟩
  · refine ATodo.skip ?_
    refine ATodo.seq ?_
    refine ATodo.region ?_
    refine n_buildSlice (xs := ([] : List Str).map AV.str) J J J J J J (fun b2=>?_)
    refine ARun.qv (q_move J) J ?_
    refine t_append (g := AV.str) (Xs := []) J J J J J J J J (.list _) h (fun _=>.here) J (fun b3=>?_)
    refine ARun.qv (q_assign J) J ?_
    refine ARun.nil ?_
    refine ATodo.ret ?_
    exact ImpX.here ⟨_,.cons (.tmp _ _ J) .nil,_,.cons .here .nil,⟨b3,J,J⟩⟩

theorem slices_Sort_string_string_k : Sort1 Tryz.prog 165 (fun l=>Value.string ⟨l.toArray⟩) srtS := ⟨fun blk off cap zs w hH hb hs=>Tryz.slices_Sort_string blk off cap zs w hH hb hs,fun p cap w=>Tryz.slices_Sort_string_none p cap w⟩
theorem slices_Sort_string_string_c [GI : GTab] {b_0 : Bk} {p0x0 : List Str} {r : (List Str)} (h : slices_Sort_string_string p0x0 = some r) : ACall Tryz.prog 165 [.sl 1 b_0 0 p0x0.length] [(b_0,.arr 1 (p0x0.map AV.str))] (T0 [(b_0,.arr 1 (r.map AV.str))] (.tup [])) :=
  sort1_acall slices_Sort_string_string_k (g := AV.str) (fun h=>h.str_inv) (fun w S x=>.str _) (fun _=>J) (fun xs=>List.length_mergeSort _) (fun _=>J) h

theorem slices_Compact_string_string_c [GI : GTab] {b_0 : Bk} {p0x0 : List Str} {r : (List Str)} (h : slices_Compact_string_string p0x0 = some r) : ACall Tryz.prog 166 [.sl 1 b_0 0 p0x0.length] [(b_0,aE1 p0x0)] (T1 (fun d_0=>[(d_0,aE1 r)]) (fun d_0=>.sl 1 d_0 0 r.length)) := by
  unfold slices_Compact_string_string at h
  refine ACall.lessH ?_
  refine ACall.bodyN Tryz.func166 J Tryz.ntmps166 Tryz.results166 J J ?_
  refine tSR<|rA J J<|rN<|tS<|tSR<|rM J J<|ARun.qv (t_len_sl J) J<|ARun.qv (q_lss J J) J<|rN<|ATodo.cond_d J (fun hc=>?_) (fun hc=>?_)
  · refine have h := iteT hc h; tSR<|rM J J<|rA J J<|rN<|ATodo.ret<|?_
    obtain rfl := Option.some.inj h
    exact ImpX.here ⟨_,.cons (.tmp _ _ J) .nil,_,.cons .p0 .nil,⟨b_0,J,J⟩⟩
  · refine have h := iteF hc h; tK<|tS<|tSR<|rA J J<|rN<|ATodo.block<|ATodo.loopI (fun x : Int=>slices_Compact_string_string_b1 p0x0 x) (fun x σ'=>σ' = ⟨61,[(0,.sl 1 b_0 0 p0x0.length),(3,I x)],[(b_0,aE1 p0x0)]⟩) h ?_ ?_
    · exact ImpX.lq [0] J J J
    · intro n2 z1 σ' J1 hmk h hJ1 hA1
      obtain rfl := hmk
      replace h : slices_Compact_string_string_b1 p0x0 n2 = some z1 := h
      unfold slices_Compact_string_string_b1 at h
      refine tS<|tSR<|rM J J<|rM J J<|ARun.qv (t_len_sl J) J<|ARun.qv (q_lss J J) J<|rN<|ATodo.cond_d J (fun hc=>?_) (fun hc=>?_)
      · refine have h := iteT hc h; tK<|tS<|ATodo.block<|tS<|ATodo.regionM (id := 6) (A := [0,0,3,7,0,0,32,112,240,511]) 10 mixed J (by kernel_rfl) (by kernel_rfl)<|AM.qv (q_move J) J<|AM.qv (q_move J) J<|bndE h fun v3 e1 h=>AM.qv (t_index_sl J J J e1) J<|AM.qv (t_load_aptr (g := AV.str) J J (.inl .p0) e1 J) J<|AM.qv (q_move J) J<|AM.qv (q_move J) J<|AM.qv (q_subw J J) J<|bndE h fun v4 e2 h=>AM.qv (t_index_sl J J J e2) J<|AM.qv (t_load_aptr (g := AV.str) J J (.inl .p0) e2 J) J<|AM.qv (q_seq J J) J<|AM.nil<|rN<|ATodo.cond_d J (fun hc=>?_) (fun hc=>?_)
        · refine have h := iteT hc h; tSR<|rM J J<|rM J J<|bndE h fun l5 e3 h=>ARun.qv (t_slice_sl J J (.some _ _ _ J) .none J J e3) J<|rA J J<|rN<|tS<|tSR<|rA J J<|rN<|ATodo.block<|ATodo.loopI (fun x : (List Str) × Int × Int=>slices_Compact_string_string_b2 n2 l5 x.1 x.2.1 x.2.2) (fun x σ'=>σ' = ⟨61,[(0,.sl 1 b_0 0 x.1.length),(3,I x.2.1),(4,.sl 1 b_0 n2.toNat l5.length),(5,I x.2.2)],[(b_0,aE1 x.1)]⟩) h ?_ ?_
          · exact ImpX.lq [0] J J J
          · intro x z2 σ' J2 hmk h hJ2 hA2
            obtain ⟨l9, n10, n11⟩ := x
            obtain rfl := hmk
            replace h : slices_Compact_string_string_b2 n2 l5 l9 n10 n11 = some z2 := h
            unfold slices_Compact_string_string_b2 at h
            refine tS<|tSR<|rM J J<|rM J J<|ARun.qv (t_len_sub J) J<|ARun.qv (q_lss J J) J<|rN<|ATodo.cond_d J (fun hc=>?_) (fun hc=>?_)
            · refine have h := iteT hc h; tK<|tS<|ATodo.block<|tS<|ATodo.regionM (id := 11) (A := [0,0,3,7,0,0,32,112,240,511]) 10 mixed J (by kernel_rfl) (by kernel_rfl)<|AM.qv (q_move J) J<|AM.qv (q_move J) J<|bndE h fun v12 e4 h=>AM.qv (t_index_sub (L := n2) J J J e4) J<|AM.qv (t_load_aptr (g := AV.str) J J (.inl .p0) (idxS_some e4).2 J) J<|AM.qv (q_move J) J<|AM.qv (q_move J) J<|AM.qv (q_subw J J) J<|bndE h fun v13 e5 h=>AM.qv (t_index_sub (L := n2) J J J e5) J<|AM.qv (t_load_aptr (g := AV.str) J J (.inl .p0) (idxS_some e5).2 J) J<|AM.qv (q_sne J J) J<|AM.nil<|rN<|ATodo.cut (fun σ'=>∃ (l14 : List Str) (n15 : Int),slices_Compact_string_string_j1 n11 l14 n15 = some z2 ∧ σ' = ⟨61,[(0,.sl 1 b_0 0 l14.length),(3,I n15),(4,.sl 1 b_0 n2.toNat l5.length),(5,I n11)],[(b_0,aE1 l14)]⟩) ?_ ?_
              · refine ATodo.cond_d J (fun hc=>?_) (fun hc=>?_)
                · exact have h := iteT hc h; tSR<|rM J J<|rM J J<|rM J J<|rM J J<|bndE h fun v16 e6 h=>ARun.qv (t_index_sub (L := n2) J J J e6) J<|ARun.qv (t_load_aptr (g := AV.str) J J (.inl .p0) (idxS_some e6).2 J) J<|bndE h fun v17 e7 h=>ARun.qv (t_index_sl J J J e7) J<|t_store_aptr1 (g := AV.str) (el' := v16) J J J J e7 J .p0 J<|ARun.ghost<|ImpX.eqs (s := 0) (av' := .sl 1 b_0 0 (l9.set n10.toNat v16).length) J (by rw [List.length_set])<|ImpX.here<|ARun.ghost<|ImpX.eqs (s := 45) (av' := .sl 1 b_0 0 (l9.set n10.toNat v16).length) J (by rw [List.length_set])<|ImpX.here<|rN<|tR<|rM J J<|ARun.qv (q_addw J J) J<|rA J J<|rN<|ATodo.stop<|ImpX.lq [0] ⟨l9.set n10.toNat v16,w64 (n10 + (1 : Int)),h,J⟩ J J
                · exact have h := iteF hc h; tK<|ATodo.stop<|ImpX.lq [0] ⟨l9,n10,h,J⟩ J J
              · rintro σ' ⟨l14, n15, h, rfl⟩
                unfold slices_Compact_string_string_j1 at h
                refine ATodo.blk<|tR<|rM J J<|ARun.qv (q_addw J J) J<|rA J J<|rN<|ATodo.stop<|?_
                obtain rfl := Option.some.inj h
                exact hJ2 _ _ J<|ImpX.lq [0] J J J
            · refine have h := iteF hc h; ATodo.exit J<|have h := outL h hA2; ?_
              unfold slices_Compact_string_string_k2 at h
              refine tSR<|rM J J<|rM J J<|bndE h fun l18 e8 h=>ARun.qv (t_slice_sl J J (.some _ _ _ J) .none J J e8) J<|t_clear (g := AV.str) (Z := []) (L := n10) J J J J J J e8 .p0<|ARun.ghost<|ImpX.eqs (s := 0) (av' := .sl 1 b_0 0 (clr l9 n10 l18.length []).length) J (congrArg (AV.sl 1 b_0 0) (clr_len e8))<|ImpX.here<|ARun.ghost<|ImpX.eqs (s := 54) (av' := .sl 1 b_0 0 (clr l9 n10 l18.length []).length) J (congrArg (AV.sl 1 b_0 0) (clr_len e8))<|ImpX.here<|rN<|tSR<|rM J J<|rM J J<|bndE h fun l19 e9 h=>ARun.qv (t_slice_sl J J .none (.some _ _ _ J) J J e9) J<|rA J J<|ARun.ghost<|ImpX.takeT e9 .p0<|ImpX.here<|rN<|ATodo.ret<|have h := outL h hA1; ?_
              obtain rfl := Option.some.inj h
              exact ImpX.here ⟨_,.cons (.tmp _ _ J) .nil,_,.cons .p0 .nil,⟨b_0,J,J⟩⟩
        · refine have h := iteF hc h; tK<|ATodo.blk<|tR<|rM J J<|ARun.qv (q_addw J J) J<|rA J J<|rN<|ATodo.stop<|?_
          obtain rfl := Option.some.inj h
          exact hJ1 _ _ J<|ImpX.lq [0] J J J
      · refine have h := iteF hc h; ATodo.exit J<|have h := outL h hA1; tSR<|rM J J<|rA J J<|rN<|ATodo.ret<|?_
        obtain rfl := Option.some.inj h
        exact ImpX.here ⟨_,.cons (.tmp _ _ J) .nil,_,.cons .p0 .nil,⟨b_0,J,J⟩⟩

theorem Q_once_c [GI : GTab] {p0x0 : List Str} {r : (List Str)} (h : Q_once p0x0 = some r) : ACall Tryz.prog 101 [lE1 p0x0] [] (T1 (fun d_0=>[(d_0,aE1 r)]) (fun d_0=>.sl 1 d_0 0 r.length)) := by
  unfold Q_once at h
  refine ACall.lessH ?_
  refine ACall.bodyN Tryz.func101 J Tryz.ntmps101 Tryz.results101 J J ?_
  refine tSR<|rA J J<|rN<|tSR<|rM J J<|bndE h fun v1 e1 h=>t_call1 J (slices_Clone_string_string_c e1) (CoL.refl _) .nil (fun _=>J) J fun b2=>rA J J<|rN<|tSR<|rM J J<|bndE h fun v3 e2 h=>t_call0 J (slices_Sort_string_string_c (lenOk_f e2)) (CoL.refl _) (.cons .p0 .nil) J J<|ARun.ghost<|ImpX.eqs (s := 0) (av' := .sl 1 b2 0 v3.length) J (congrArg (AV.sl 1 b2 0) (lenOk_l e2))<|ImpX.here<|ARun.ghost<|ImpX.eqs (s := 4) (av' := .sl 1 b2 0 v3.length) J (congrArg (AV.sl 1 b2 0) (lenOk_l e2))<|ImpX.here<|ARun.ghost<|ImpX.eqs (s := 5) (av' := .sl 1 b2 0 v3.length) J (congrArg (AV.sl 1 b2 0) (lenOk_l e2))<|ImpX.here<|rN<|tSR<|rM J J<|bndE h fun v4 e3 h=>t_call1 J (slices_Compact_string_string_c e3) (CoL.refl _) (.cons .p0 .nil) (fun _=>J) J fun b5=>rA J J<|rN<|ATodo.ret<|?_
  obtain rfl := Option.some.inj h
  exact ImpX.here ⟨_,.cons (.tmp _ _ J) .nil,_,.cons .p0 .nil,⟨b5,J,J⟩⟩

theorem Q_KnownOf_c [GI : GTab] {p0x0 : List EventS} {r : (List Seen)} (h : Q_KnownOf p0x0 = some r) : ACall Tryz.prog 40 [lE4 p0x0] [] (T1 (fun d_0=>[(d_0,aE6 r)]) (fun d_0=>.sl 2 d_0 0 r.length)) := by
  unfold Q_KnownOf at h
  refine ACall.lessH ?_
  refine ACall.bodyN Tryz.func40 J Tryz.ntmps40 Tryz.results40 J J ?_
  refine tSR<|rA J J<|rN<|tSR<|rA J J<|rN<|tS<|tSR<|rM J J<|ARun.qv (t_len J) J<|rM J J<|rN<|ATodo.block<|ATodo.loopI (fun x : (List Str) × Int=>Q_KnownOf_b1 p0x0 x.1 x.2) (fun x σ'=>∃ (b4 : Bk),σ' = ⟨54,[(0,lE4 p0x0),(3,.sl 1 b4 0 x.1.length),(12,lE4 p0x0),(13,I (p0x0.length : Int)),(14,I x.2)],[(b4,aE1 x.1)]⟩) h ?_ ?_
  · exact ImpX.arr (s := 3) 1 J fun b7=>ImpX.lq [0] ⟨b7,J⟩ J J
  · intro x z1 σ' J1 hmk h hJ1 hA1
    obtain ⟨l5, n6⟩ := x
    obtain ⟨b4, rfl⟩ := hmk
    replace h : Q_KnownOf_b1 p0x0 l5 n6 = some z1 := h
    unfold Q_KnownOf_b1 at h
    refine tSR<|ARun.qv (q_lss J J) J<|rN<|tS<|ATodo.cond_d J (fun hc=>?_) (fun hc=>?_)
    · refine have h := iteT hc h; tK<|tS<|ATodo.block<|tSR<|bndE h fun v8 e1 h=>ARun.qv (t_index J J J e1 J J) J<|ARun.qv (q_load_rptr_agg J J J) J<|n_alloc J J J J fun b9=>n_store_ptr J J J J .p0 J J<|rN<|tR<|rM J J<|rF J J J<|rL J J .p0 J J<|n_buildSliceL (xs := ([v8.Hub] : List Str).map AV.str) J J J J J J<|bndE h fun l10 e2 h=>t_append (g := AV.str) J J J J J J J J (.list _) e2 (fun _=>.p1) J fun b11=>rA J J<|rN<|ATodo.blk<|tR<|ARun.qv (q_addw J J) J<|rM J J<|rN<|ATodo.stop<|?_
      obtain rfl := Option.some.inj h
      exact hJ1 _ _ J<|ImpX.lq [1] ⟨b11,J⟩ J J
    · refine have h := iteF hc h; ATodo.exit J<|have h := outL h hA1; ?_
      unfold Q_KnownOf_k3 at h
      refine tSR<|rA J J<|rN<|tS<|tSR<|rM J J<|bndE h fun v12 e3 h=>t_callL1 J (Q_once_c e3) .nil (.cons (CoB.arrT .p0) .nil) (fun _=>J) (fun _=>J) (fun _=>(.cons (NoS.arrT (fun _=>J)) .nil)) J fun b13=>ARun.qv (t_len_sl J) J<|rM J J<|rN<|ATodo.block<|ATodo.loopI (fun x : (List Seen) × Int=>Q_KnownOf_b2 p0x0 v12 x.1 x.2) (fun x σ'=>∃ (b17 : Bk),σ' = ⟨54,[(0,lE4 p0x0),(6,.sl 2 b17 0 x.1.length),(25,.sl 1 b13 0 v12.length),(26,I (v12.length : Int)),(27,I x.2)],[(b17,aE6 x.1),(b13,aE1 v12)]⟩) h ?_ ?_
      · exact ImpX.arr (s := 6) 2 J fun b20=>ImpX.lq [0,0] ⟨b20,J⟩ J J
      · intro x z2 σ' J2 hmk h hJ2 hA2
        obtain ⟨l18, n19⟩ := x
        obtain ⟨b17, rfl⟩ := hmk
        replace h : Q_KnownOf_b2 p0x0 v12 l18 n19 = some z2 := h
        unfold Q_KnownOf_b2 at h
        refine tSR<|ARun.qv (q_lss J J) J<|rN<|tS<|ATodo.cond_d J (fun hc=>?_) (fun hc=>?_)
        · refine have h := iteT hc h; tK<|tS<|ATodo.block<|tSR<|bndE h fun v21 e4 h=>ARun.qv (t_index_sl J J J e4) J<|ARun.qv (t_load_aptr (g := AV.str) J J (.inl .p1) e4 J) J<|rA J J<|rN<|tSR<|rA J J<|rN<|tS<|tSR<|rM J J<|ARun.qv (t_len J) J<|rM J J<|rN<|ATodo.block<|ATodo.loopI (fun x : Int × Int=>Q_KnownOf_b3 p0x0 l18 n19 v21 x.1 x.2) (fun x σ'=>σ' = ⟨54,[(0,lE4 p0x0),(6,.sl 2 b17 0 l18.length),(8,.str v21),(9,I x.1),(25,.sl 1 b13 0 v12.length),(26,I (v12.length : Int)),(27,I n19),(31,lE4 p0x0),(32,I (p0x0.length : Int)),(33,I x.2)],[(b17,aE6 l18),(b13,aE1 v12)]⟩) h ?_ ?_
          · exact ImpX.lq [0,0] J J J
          · intro x z3 σ' J3 hmk h hJ3 hA3
            obtain ⟨n24, n25⟩ := x
            obtain rfl := hmk
            replace h : Q_KnownOf_b3 p0x0 l18 n19 v21 n24 n25 = some z3 := h
            unfold Q_KnownOf_b3 at h
            refine tSR<|ARun.qv (q_lss J J) J<|rN<|tS<|ATodo.cond_d J (fun hc=>?_) (fun hc=>?_)
            · refine have h := iteT hc h; tK<|tS<|ATodo.block<|tSR<|bndE h fun v26 e5 h=>ARun.qv (t_index J J J e5 J J) J<|ARun.qv (q_load_rptr_agg J J J) J<|n_alloc J J J J fun b27=>n_store_ptr J J J J .p0 J J<|rN<|tSR<|rF J J J<|rL J J .p0 J J<|rM J J<|ARun.qv (q_seq J J) J<|rN<|ATodo.cut (fun σ'=>∃ (n28 : Int),Q_KnownOf_j1 n25 n28 = some z3 ∧ σ' = ⟨54,[(0,lE4 p0x0),(6,.sl 2 b17 0 l18.length),(8,.str v21),(9,I n28),(25,.sl 1 b13 0 v12.length),(26,I (v12.length : Int)),(27,I n19),(31,lE4 p0x0),(32,I (p0x0.length : Int)),(33,I n25)],[(b17,aE6 l18),(b13,aE1 v12)]⟩) ?_ ?_
              · refine ATodo.cond_d J (fun hc=>?_) (fun hc=>?_)
                · exact have h := iteT hc h; tR<|rM J J<|rF J J J<|rL J J .p0 J J<|ARun.qv (q_max J J) J<|rA J J<|rN<|ATodo.stop<|ImpX.lq [1,1] ⟨max n24 v26.No,h,J⟩ J J
                · exact have h := iteF hc h; tK<|ATodo.stop<|ImpX.lq [1,1] ⟨n24,h,J⟩ J J
              · rintro σ' ⟨n28, h, rfl⟩
                unfold Q_KnownOf_j1 at h
                refine ATodo.blk<|tR<|ARun.qv (q_addw J J) J<|rM J J<|rN<|ATodo.stop<|?_
                obtain rfl := Option.some.inj h
                exact hJ3 _ _ J<|ImpX.lq [0,0] J J J
            · refine have h := iteF hc h; ATodo.exit J<|have h := outL h hA3; ?_
              unfold Q_KnownOf_k2 at h
              refine tR<|rM J J<|rM J J<|rM J J<|ARun.qv (n_build J J J J J) J<|n_buildSliceL (xs := ([(⟨v21,n24⟩ : Seen)]).map Seen.av) J J J J J J<|bndE h fun l29 e6 h=>t_append (g := Seen.av) J J J J J J J J (.list _) e6 (fun _=>.p0) J fun b30=>rA J J<|rN<|ATodo.blk<|tR<|ARun.qv (q_addw J J) J<|rM J J<|rN<|ATodo.stop<|?_
              obtain rfl := Option.some.inj h
              exact hJ2 _ _ J<|ImpX.lq [0,0] ⟨b30,J⟩ J J
        · refine have h := iteF hc h; ATodo.exit J<|have h := outL h hA2; tSR<|rM J J<|rA J J<|rN<|ATodo.ret<|?_
          obtain rfl := Option.some.inj h
          exact ImpX.here ⟨_,.cons (.tmp _ _ J) .nil,_,.cons .p0 .nil,⟨b17,J,J⟩⟩

theorem slices_Equal_Seen_Seen_c [GI : GTab] {p0x0 : List Seen} {p1x0 : List Seen} {r : Bool} (h : slices_Equal_Seen_Seen p0x0 p1x0 = some r) : Pu Tryz.prog 39 [lE6 p0x0,lE6 p1x0] (.bool r) := by
  unfold slices_Equal_Seen_Seen at h
  refine ACall.bodyN Tryz.func39 J Tryz.ntmps39 Tryz.results39 J J ?_
  refine tSR<|rA J J<|rN<|tS<|tSR<|rM J J<|ARun.qv (t_len J) J<|rM J J<|ARun.qv (t_len J) J<|ARun.qv (q_neq J J) J<|rN<|ATodo.cond_d J (fun hc=>?_) (fun hc=>?_)
  · refine have h := iteT hc h; tSR<|rA J J<|rN<|ATodo.ret<|?_
    obtain rfl := Option.some.inj h
    exact ImpX.here ⟨_,.cons (.tmp _ _ J) .nil,J⟩
  · refine have h := iteF hc h; tK<|tS<|tSR<|rM J J<|ARun.qv (t_len J) J<|rM J J<|rN<|ATodo.block<|ATodo.loopI (fun x : Int=>slices_Equal_Seen_Seen_b1 p0x0 p1x0 x) (fun x σ'=>σ' = ⟨26,[(0,lE6 p0x0),(1,lE6 p1x0),(12,I (p0x0.length : Int)),(13,I x)],[]⟩) h ?_ ?_
    · exact ImpX.lq [] J J J
    · intro n2 z1 σ' J1 hmk h hJ1 hA1
      obtain rfl := hmk
      replace h : slices_Equal_Seen_Seen_b1 p0x0 p1x0 n2 = some z1 := h
      unfold slices_Equal_Seen_Seen_b1 at h
      refine tSR<|ARun.qv (q_lss J J) J<|rN<|tS<|ATodo.cond_d J (fun hc=>?_) (fun hc=>?_)
      · refine have h := iteT hc h; tK<|tS<|ATodo.block<|tSR<|rM J J<|rA J J<|rN<|tS<|ATodo.regionM (id := 6) (A := [0,0,3,7,0,0,48,112,255]) 9 mixed J (by kernel_rfl) (by kernel_rfl)<|AM.qv (q_move J) J<|AM.qv (q_move J) J<|bndE h fun v3 e1 h=>AM.qv (t_index J J J e1 J J) J<|AM.qv (q_load_rptr_agg J J J) J<|AM.qv (q_move J) J<|AM.qv (q_move J) J<|bndE h fun v4 e2 h=>AM.qv (t_index J J J e2 J J) J<|AM.qv (q_load_rptr_agg J J J) J<|AM.qv (t_tne (g := Seen.av) (X := v3) (Y := v4) J J J J J) J<|AM.nil<|rN<|ATodo.cond_d J (fun hc=>?_) (fun hc=>?_)
        · refine have h := iteT hc h; tSR<|rA J J<|rN<|ATodo.ret<|have h := outL h hA1; ?_
          obtain rfl := Option.some.inj h
          exact ImpX.here ⟨_,.cons (.tmp _ _ J) .nil,J⟩
        · refine have h := iteF hc h; tK<|ATodo.blk<|tR<|ARun.qv (q_addw J J) J<|rM J J<|rN<|ATodo.stop<|?_
          obtain rfl := Option.some.inj h
          exact hJ1 _ _ J<|ImpX.lq [] J J J
      · refine have h := iteF hc h; ATodo.exit J<|have h := outL h hA1; tSR<|rA J J<|rN<|ATodo.ret<|?_
        obtain rfl := Option.some.inj h
        exact ImpX.here ⟨_,.cons (.tmp _ _ J) .nil,J⟩

theorem Q_SeenFault_c {p0x0 : List Seen} {r : Int} (h : Q_SeenFault p0x0 = some r) : Pu Tryz.prog 41 [lE6 p0x0] (I r) := by
  unfold Q_SeenFault at h
  refine ACall.bodyN Tryz.func41 J Tryz.ntmps41 Tryz.results41 J J ?_
  refine tSR<|rA J J<|rN<|tS<|tSR<|rM J J<|ARun.qv (t_len J) J<|ARun.qv (q_gtr J J) J<|rN<|ATodo.cond_d J (fun hc=>?_) (fun hc=>?_)
  · refine have h := iteT hc h; tSR<|rA J J<|rN<|ATodo.ret<|?_
    obtain rfl := Option.some.inj h
    exact ImpX.here ⟨_,.cons (.tmp _ _ J) .nil,J⟩
  · refine have h := iteF hc h; tK<|tS<|tSR<|rM J J<|ARun.qv (t_len J) J<|rM J J<|rN<|ATodo.block<|ATodo.loopI (fun x : Int=>Q_SeenFault_b1 p0x0 x) (fun x σ'=>σ' = ⟨40,[(0,lE6 p0x0),(8,lE6 p0x0),(9,I (p0x0.length : Int)),(10,I x)],[]⟩) h ?_ ?_
    · exact ImpX.lq [] J J J
    · intro n2 z1 σ' J1 hmk h hJ1 hA1
      obtain rfl := hmk
      replace h : Q_SeenFault_b1 p0x0 n2 = some z1 := h
      unfold Q_SeenFault_b1 at h
      refine tSR<|ARun.qv (q_lss J J) J<|rN<|tS<|ATodo.cond_d J (fun hc=>?_) (fun hc=>?_)
      · refine have h := iteT hc h; tK<|tS<|ATodo.block<|tSR<|rM J J<|bndE h fun v3 e1 h=>ARun.qv (t_index J J J e1 J J) J<|ARun.qv (q_load_rptr_agg J J J) J<|n_alloc J J J J fun b4=>rA J J<|n_store_ptr J J J J .p0 J J<|rN<|ATodo.block<|tSR<|rF J J J<|rL J J .p0 J J<|bndE h fun v5 e2 h=>r_callp J (Q_Key_c e2) (CoL.refl _) J<|ARun.qv (q_not J) J<|rA J J<|rN<|ATodo.cond J (fun hc=>?_) (fun hc=>?_)
        · refine have h := iteT hc h; tSR<|rA J J<|rN<|ATodo.ret<|have h := outL h hA1; ?_
          obtain rfl := Option.some.inj h
          exact ImpX.here ⟨_,.cons (.tmp _ _ J) .nil,J⟩
        · refine have h := iteFb hc h; tS<|ATodo.cut (fun σ'=>∃ (c6 : Bool),Q_SeenFault_j1 n2 v3 c6 = some z1 ∧ σ' = ⟨40,[(0,lE6 p0x0),(4,.ptr b4 0),(8,lE6 p0x0),(9,I (p0x0.length : Int)),(10,I n2),(20,.bool c6)],[(b4,.cells [.str v3.Hub,I v3.No])]⟩) ?_ ?_
          · refine ATodo.regionM (id := 8) (A := [0,1,3,7,15,7,7,71,231,487,999,2047,4095,8191]) 14 mixed J (by kernel_rfl) (by kernel_rfl)<|AM.qv (q_move J) J<|AM.qv (q_gtr J J) J<|AM.qv (q_move J) J<|AM.guard_dt J J J (fun hc=>?_) (fun hc=>?_)
            · exact have h := iteT hc h; AM.qv (n_field_ptr J J) J<|AM.guard_yes J J J<|AM.qv (q_load_ptr J J .p0 J) J<|AM.guard_yes J J J<|AM.qv (q_move J) J<|AM.guard_yes J J J<|AM.qv (q_move J) J<|AM.guard_yes J J J<|AM.qv (q_subw J J) J<|AM.guard_yes J J J<|bndE h fun v7 e3 h=>AM.qv (t_index J J J e3 J J) J<|AM.guard_yes J J J<|AM.qv (n_field_rptr J J) J<|AM.guard_yes J J J<|AM.qv (q_load_rptr J J J) J<|AM.guard_yes J J J<|AM.qv (t_sleq J J) J<|AM.qv (q_pick_t J J) J<|AM.qv (q_assign J) J<|AM.nil<|rN<|ATodo.stop<|ImpX.lq [0] ⟨Op.bytesLess v3.Hub v7.Hub || v3.Hub == v7.Hub,h,J⟩ J J
            · exact have h := iteF hc h; AM.guard_no J J J J<|AM.guard_no J J J J<|AM.guard_no J J J J<|AM.guard_no J J J J<|AM.guard_no J J J J<|AM.guard_no J J J J<|AM.guard_no J J J J<|AM.guard_no J J J J<|AM.qv (q_pick_f J J) J<|AM.qv (q_assign J) J<|AM.nil<|rN<|ATodo.stop<|ImpX.lq [0] ⟨false,h,J⟩ J J
          · rintro σ' ⟨c6, h, rfl⟩
            unfold Q_SeenFault_j1 at h
            refine ATodo.cond J (fun hc=>?_) (fun hc=>?_)
            · refine have h := iteT hc h; tSR<|rA J J<|rN<|ATodo.ret<|have h := outL h hA1; ?_
              obtain rfl := Option.some.inj h
              exact ImpX.here ⟨_,.cons (.tmp _ _ J) .nil,J⟩
            · refine have h := iteFb hc h; tSR<|rF J J J<|rL J J .p0 J J<|r_callp J (Q_in_c J) (CoL.refl _) J<|ARun.qv (q_not J) J<|rA J J<|rN<|ATodo.cond J (fun hc=>?_) (fun hc=>?_)
              · refine have h := iteT hc h; tSR<|rA J J<|rN<|ATodo.ret<|have h := outL h hA1; ?_
                obtain rfl := Option.some.inj h
                exact ImpX.here ⟨_,.cons (.tmp _ _ J) .nil,J⟩
              · refine have h := iteFb hc h; tK<|ATodo.blk<|ATodo.blk<|tR<|ARun.qv (q_addw J J) J<|rM J J<|rN<|ATodo.stop<|?_
                obtain rfl := Option.some.inj h
                exact hJ1 _ _ J<|ImpX.lq [] J J J
      · refine have h := iteF hc h; ATodo.exit J<|have h := outL h hA1; tSR<|rA J J<|rN<|ATodo.ret<|?_
        obtain rfl := Option.some.inj h
        exact ImpX.here ⟨_,.cons (.tmp _ _ J) .nil,J⟩

theorem device_checkOf_c [GI : GTab] {p0x0 : Str} {r : Int} (h : device_checkOf p0x0 = some r) : Pu Tryz.prog 155 [.str p0x0] (.int .u8 r) := by
  unfold device_checkOf at h
  refine ACall.bodyN Tryz.func155 J Tryz.ntmps155 Tryz.results155 J J ?_
  refine tSR<|rA J J<|rN<|tSR<|rA J J<|rN<|tS<|tSR<|rM J J<|ARun.qv (q_len_str J) J<|rM J J<|rN<|ATodo.block<|ATodo.loopI (fun x : Int × Int=>device_checkOf_b1 p0x0 x.1 x.2) (fun x σ'=>σ' = ⟨23,[(0,.str p0x0),(3,I x.1),(6,I (p0x0.length : Int)),(7,I x.2)],[]⟩) h ?_ ?_
  · exact ImpX.lq [] J J J
  · intro x z1 σ' J1 hmk h hJ1 hA1
    obtain ⟨n3, n4⟩ := x
    obtain rfl := hmk
    replace h : device_checkOf_b1 p0x0 n3 n4 = some z1 := h
    unfold device_checkOf_b1 at h
    refine tSR<|ARun.qv (q_lss J J) J<|rN<|tS<|ATodo.cond_d J (fun hc=>?_) (fun hc=>?_)
    · refine have h := iteT hc h; tK<|tS<|ATodo.block<|tSR<|rM J J<|rA J J<|rN<|tR<|rM J J<|rM J J<|ARun.qv (q_addw J J) J<|rM J J<|rM J J<|bndE h fun c5 e1 h=>ARun.qv (t_index_str J J e1) J<|r_callp J (strings_IndexByte_c J) (CoL.refl _) J<|ARun.qv (q_mulw J J) J<|ARun.qv (q_addw J J) J<|rA J J<|rN<|ATodo.blk<|tR<|ARun.qv (q_addw J J) J<|rM J J<|rN<|ATodo.stop<|?_
      obtain rfl := Option.some.inj h
      exact hJ1 _ _ J<|ImpX.lq [] J J J
    · refine have h := iteF hc h; ATodo.exit J<|have h := outL h hA1; ?_
      unfold device_checkOf_k1 at h
      refine tSR<|rM J J<|ARun.qv (q_rem J J (by decide)) J<|bndE h fun c6 e2 h=>ARun.qv (t_index_str J J e2) J<|rA J J<|rN<|ATodo.ret<|?_
      obtain rfl := Option.some.inj h
      exact ImpX.here ⟨_,.cons (.tmp _ _ J) .nil,J⟩

theorem device_Serial_c {p0x0 : List Model} {p1x0 : Str} {p2x0 : Int} {r : Str × Int} (h : device_Serial p0x0 p1x0 p2x0 = some r) : Pu Tryz.prog 85 [lE3 p0x0,.str p1x0,I p2x0] (.tup [.str r.1,I r.2]) := by
  unfold device_Serial at h
  refine ACall.bodyN Tryz.func85 J Tryz.ntmps85 Tryz.results85 J J ?_
  refine tSR<|rA J J<|rA J J<|rN<|tS<|tSR<|rM J J<|bndE h fun v1 e1 h=>r_callp J (device_CheckModels_c e1) (CoL.refl _) J<|rA J J<|rN<|tSR<|rM J J<|ARun.qv (q_neq J J) J<|rN<|ATodo.cond_d J (fun hc=>?_) (fun hc=>?_)
  · refine have h := iteT hc h; tSR<|rM J J<|rA J J<|rA J J<|rN<|ATodo.ret<|?_
    obtain rfl := Option.some.inj h
    exact ImpX.here ⟨_,.cons (.tmp _ _ J) (.cons (.tmp _ _ J) .nil),J⟩
  · refine have h := iteF hc h; tK<|tSR<|rM J J<|rM J J<|bndE h fun v2 e2 h=>r_callp J (device_model_c e2) (CoL.refl _) J<|rA J J<|rN<|tS<|tSR<|rM J J<|ARun.qv (q_lss J J) J<|rN<|ATodo.cond_d J (fun hc=>?_) (fun hc=>?_)
    · refine have h := iteT hc h; tSR<|rA J J<|rA J J<|rN<|ATodo.ret<|?_
      obtain rfl := Option.some.inj h
      exact ImpX.here ⟨_,.cons (.tmp _ _ J) (.cons (.tmp _ _ J) .nil),J⟩
    · refine have h := iteF hc h; tK<|tS<|tSR<|rM J J<|r_callp J (base_Out_c J) (CoL.refl _) J<|rN<|ATodo.cond J (fun hc=>?_) (fun hc=>?_)
      · refine have h := iteT hc h; tSR<|rA J J<|rA J J<|rN<|ATodo.ret<|?_
        obtain rfl := Option.some.inj h
        exact ImpX.here ⟨_,.cons (.tmp _ _ J) (.cons (.tmp _ _ J) .nil),J⟩
      · refine have h := iteFb hc h; tK<|tSR<|rM J J<|bndE h fun v3 e3 h=>r_callp J (strconv_Itoa_c e3) (CoL.refl _) J<|rA J J<|rN<|tSR<|rM J J<|ARun.qv (q_len_str J) J<|ARun.qv (q_subw J J) J<|bndE h fun v4 e4 h=>r_callp J (strings_Repeat_c e4) (CoL.refl _) J<|rM J J<|bndE h fun q5 e5 h=>ARun.qv (q_sadd e5 J J) J<|rA J J<|rN<|tSR<|rM J J<|rM J J<|bndE h fun v6 e6 h=>ARun.qv (t_index J J J e6 J J) J<|ARun.qv (n_field_rptr J J) J<|ARun.qv (q_load_rptr J J J) J<|rA J J<|rN<|tSR<|rM J J<|bndE h fun q7 e7 h=>ARun.qv (q_sadd e7 J J) J<|rM J J<|bndE h fun q8 e8 h=>ARun.qv (q_sadd e8 J J) J<|bndE h fun q9 e9 h=>ARun.qv (q_sadd e9 J J) J<|rM J J<|rM J J<|bndE h fun q10 e10 h=>ARun.qv (q_sadd e10 J J) J<|bndE h fun v11 e11 h=>r_callp J (device_checkOf_c e11) (CoL.refl _) J<|ARun.qv (q_conv_is J) J<|bndE h fun q12 e12 h=>ARun.qv (q_sadd e12 J J) J<|rA J J<|rA J J<|rN<|ATodo.ret<|?_
        obtain rfl := Option.some.inj h
        exact ImpX.here ⟨_,.cons (.tmp _ _ J) (.cons (.tmp _ _ J) .nil),J⟩

theorem L_deviced_c {r : Bool} (h : L_deviced = some r) : Pu Tryz.prog 26 [] (.bool r) := by
  unfold L_deviced at h
  refine ACall.bodyN Tryz.func26 J Tryz.ntmps26 Tryz.results26 J J ?_
  refine tSR<|rA J J<|rN<|tSR<|ARun.qv (n_build J J J J J) J<|n_buildSliceL (xs := [.agg [.str ([109] : Str),.str ([65,66] : Str),.nil]]) J J J J J J<|ARun.ghost<|ImpX.cox (s := 5) (av' := .list 3 (([(⟨([109] : Str),([65,66] : Str),[]⟩ : Model)] : List Model).map Model.av)) J (CoX.listL (.cons .r (.cons .r (.cons .n .nil))) J J)<|ImpX.here<|bndE h fun v1 e1 h=>r_callp J (device_Serial_c e1) (CoL.refl _) J<|rM J J<|rX J J J<|rX J J J<|rA J J<|rA J J<|rN<|tS<|ATodo.cut (fun σ'=>∃ (c2 : Bool),L_deviced_j1 c2 = some r ∧ σ' = ⟨15,[(0,.bool c2)],[]⟩) ?_ ?_
  · refine tR<|rM J J<|ARun.qv (q_eql J J) J<|rM J J<|ARun.guard_dt J J J (fun hc=>?_) (fun hc=>?_)
    · rw [andTd hc] at h
      exact rM J J<|rY J J J<|ARun.qv (q_seq J J) J<|rT J J J<|rA J J<|rN<|ATodo.stop<|ImpX.lq [] ⟨decide (v1.1 = ([65,66,45,48,48,48,48,48,48,48,55,45,77] : Str)),h,J⟩ J J
    · rw [andFd hc] at h
      exact rG J J J J<|rE J J J<|rA J J<|rN<|ATodo.stop<|ImpX.lq [] ⟨false,h,J⟩ J J
  · rintro σ' ⟨c2, h, rfl⟩
    unfold L_deviced_j1 at h
    refine ATodo.ret<|?_
    obtain rfl := Option.some.inj h
    exact ImpX.here ⟨_,.cons (.tmp _ _ J) .nil,J⟩

theorem Q_SinceOf_1x_1x_c [GI : GTab] {p0x0 : Seen} {p1x0 : EventS} {r : Bool} (h : Q_SinceOf_1x_1x p0x0 p1x0 = r) : Pu Tryz.prog 105 [Seen.av p0x0,.rptr [.str p1x0.Hub,I p1x0.No,I p1x0.Clock,I p1x0.At,I p1x0.Kind,.str p1x0.Device,.str p1x0.Model,.str p1x0.Tenant,I p1x0.Serial,.str p1x0.Key,.str p1x0.Name,.str p1x0.Value,I p1x0.Until,I p1x0.Firmware.Major,I p1x0.Firmware.Minor,I p1x0.Firmware.Patch]] (.bool r) := by
  unfold Q_SinceOf_1x_1x at h
  refine ACall.bodyN Tryz.func105 J Tryz.ntmps105 Tryz.results105 J J ?_
  refine tSR<|n_box J J J J fun b1=>rA J J<|rN<|tS<|ATodo.cut (fun σ'=>∃ (c2 : Bool),Q_SinceOf_1x_1x_j1 c2 = r ∧ σ' = ⟨16,[(3,.bool c2)],[]⟩) ?_ ?_
  · refine tR<|rF J J J<|rL J J .p0 J J<|ARun.qv (n_field_rptr J J) J<|ARun.qv (q_load_rptr J J J) J<|ARun.qv (q_seq J J) J<|rM J J<|ARun.guard_dt J J J (fun hc=>?_) (fun hc=>?_)
    · rw [andTd hc] at h
      exact rF J J J<|rY J J J<|rL J J .p0 J J<|rY J J J<|ARun.qv (n_field_rptr J J) J<|rY J J J<|ARun.qv (q_load_rptr J J J) J<|rY J J J<|ARun.qv (q_geq J J) J<|rT J J J<|rA J J<|rN<|ATodo.stop<|ImpX.lq [] ⟨decide (p1x0.No ≤ p0x0.No),h,J⟩ J J
    · rw [andFd hc] at h
      exact rG J J J J<|rG J J J J<|rG J J J J<|rG J J J J<|rE J J J<|rA J J<|rN<|ATodo.stop<|ImpX.lq [] ⟨false,h,J⟩ J J
  · rintro σ' ⟨c2, h, rfl⟩
    unfold Q_SinceOf_1x_1x_j1 at h
    refine ATodo.ret<|?_
    obtain rfl := h
    exact ImpX.here ⟨_,.cons (.tmp _ _ J) .nil,J⟩

theorem slices_IndexFunc_Seen_Seen_c [GI : GTab] {p0x0 : List Seen} {fnb : Seen → Option Bool} {fnb_F : FuncId} [IsFn Tryz.prog fnb_F] {fnb_C : List AV} (fnb_h : ∀ {y0 : _} {u : Bool},fnb y0 = some u → Pu Tryz.prog fnb_F (Seen.av y0 ::  fnb_C) (.bool u)) {r : Int} (h : slices_IndexFunc_Seen_Seen p0x0 fnb = some r) : Pu Tryz.prog 167 [lE6 p0x0,.func (.func fnb_F) fnb_C] (I r) := by
  unfold slices_IndexFunc_Seen_Seen at h
  refine ACall.bodyN Tryz.func167 J Tryz.ntmps167 Tryz.results167 J J ?_
  refine tSR<|rA J J<|rN<|tS<|tSR<|rM J J<|ARun.qv (t_len J) J<|rM J J<|rN<|ATodo.block<|ATodo.loopI (fun x : Int=>slices_IndexFunc_Seen_Seen_b1 p0x0 fnb x) (fun x σ'=>σ' = ⟨19,[(0,lE6 p0x0),(1,.func (.func fnb_F) fnb_C),(7,I (p0x0.length : Int)),(8,I x)],[]⟩) h ?_ ?_
  · exact ImpX.lq [] J J J
  · intro n2 z1 σ' J1 hmk h hJ1 hA1
    obtain rfl := hmk
    replace h : slices_IndexFunc_Seen_Seen_b1 p0x0 fnb n2 = some z1 := h
    unfold slices_IndexFunc_Seen_Seen_b1 at h
    refine tSR<|ARun.qv (q_lss J J) J<|rN<|tS<|ATodo.cond_d J (fun hc=>?_) (fun hc=>?_)
    · refine have h := iteT hc h; tK<|tS<|ATodo.block<|tSR<|rM J J<|rA J J<|rN<|tSR<|rM J J<|rM J J<|rM J J<|bndE h fun v3 e1 h=>ARun.qv (t_index J J J e1 J J) J<|ARun.qv (q_load_rptr_agg J J J) J<|bndE h fun v4 e2 h=>r_callvp J J (fnb_h e2) (CoL.refl _) J<|rN<|ATodo.cond J (fun hc=>?_) (fun hc=>?_)
      · refine have h := iteT hc h; tSR<|rM J J<|rA J J<|rN<|ATodo.ret<|have h := outL h hA1; ?_
        obtain rfl := Option.some.inj h
        exact ImpX.here ⟨_,.cons (.tmp _ _ J) .nil,J⟩
      · refine have h := iteFb hc h; tK<|ATodo.blk<|tR<|ARun.qv (q_addw J J) J<|rM J J<|rN<|ATodo.stop<|?_
        obtain rfl := Option.some.inj h
        exact hJ1 _ _ J<|ImpX.lq [] J J J
    · refine have h := iteF hc h; ATodo.exit J<|have h := outL h hA1; tSR<|rA J J<|rN<|ATodo.ret<|?_
      obtain rfl := Option.some.inj h
      exact ImpX.here ⟨_,.cons (.tmp _ _ J) .nil,J⟩

theorem slices_ContainsFunc_Seen_Seen_c [GI : GTab] {p0x0 : List Seen} {fnb : Seen → Option Bool} {fnb_F : FuncId} [IsFn Tryz.prog fnb_F] {fnb_C : List AV} (fnb_h : ∀ {y0 : _} {u : Bool},fnb y0 = some u → Pu Tryz.prog fnb_F (Seen.av y0 ::  fnb_C) (.bool u)) {r : Bool} (h : slices_ContainsFunc_Seen_Seen p0x0 fnb = some r) : Pu Tryz.prog 104 [lE6 p0x0,.func (.func fnb_F) fnb_C] (.bool r) := by
  unfold slices_ContainsFunc_Seen_Seen at h
  refine ACall.bodyN Tryz.func104 J Tryz.ntmps104 Tryz.results104 J J ?_
  refine tSR<|rA J J<|rN<|tSR<|rM J J<|rM J J<|bndE h fun v1 e1 h=>r_callpB J (slices_IndexFunc_Seen_Seen_c fnb_h e1) (.cons (.co (.refl _)) (.cons (.co (.refl _)) .nil)) J J<|ARun.qv (q_geq J J) J<|rA J J<|rN<|ATodo.ret<|?_
  obtain rfl := Option.some.inj h
  exact ImpX.here ⟨_,.cons (.tmp _ _ J) .nil,J⟩

theorem Q_SinceOf_1x_c [GI : GTab] {p0x0 : EventS} {p1x0 : List Seen} {r : Bool} (h : Q_SinceOf_1x p0x0 p1x0 = some r) : Pu Tryz.prog 103 [EventS.av p0x0,.rptr [lE6 p1x0]] (.bool r) := by
  unfold Q_SinceOf_1x at h
  refine ACall.bodyN Tryz.func103 J Tryz.ntmps103 Tryz.results103 J J ?_
  refine tSR<|n_box J J J J fun b1=>rA J J<|rN<|tSR<|ARun.qv (q_load_rptr J J J) J<|ARun.qv (q_makeFunc J) J<|bndE h fun v2 e1 h=>r_callpB J (slices_ContainsFunc_Seen_Seen_c (fun e=>Q_SinceOf_1x_1x_c (Option.some.inj e)) e1) (.cons (.co (.refl _)) (.cons (.funcL _ _ _ (.cons (.boxL _ _ _ .p0 (.cons (.co (.refl _)) (.cons (.co (.refl _)) (.cons (.co (.refl _)) (.cons (.co (.refl _)) (.cons (.co (.refl _)) (.cons (.co (.refl _)) (.cons (.co (.refl _)) (.cons (.co (.refl _)) (.cons (.co (.refl _)) (.cons (.co (.refl _)) (.cons (.co (.refl _)) (.cons (.co (.refl _)) (.cons (.co (.refl _)) (.cons (.co (.refl _)) (.cons (.co (.refl _)) (.cons (.co (.refl _)) .nil))))))))))))))))) .nil)) .nil)) J J<|rA J J<|rN<|ATodo.ret<|?_
  obtain rfl := Option.some.inj h
  exact ImpX.here ⟨_,.cons (.tmp _ _ J) .nil,J⟩

theorem slices_DeleteFunc_Event_Event_c [GI : GTab] {b_0 : Bk} {p0x0 : List EventS} {fnb : EventS → Option Bool} {fnb_F : FuncId} [IsFn Tryz.prog fnb_F] {fnb_C : List AV} (fnb_h : ∀ {y0 : _} {u : Bool},fnb y0 = some u → Pu Tryz.prog fnb_F (EventS.av y0 ::  fnb_C) (.bool u)) {r : (List EventS)} (h : slices_DeleteFunc_Event_Event p0x0 fnb = some r) : ACall Tryz.prog 102 [.sl 16 b_0 0 p0x0.length,.func (.func fnb_F) fnb_C] [(b_0,aE4 p0x0)] (T1 (fun d_0=>[(d_0,aE4 r)]) (fun d_0=>.sl 16 d_0 0 r.length)) := by
  unfold slices_DeleteFunc_Event_Event at h
  refine ACall.lessH ?_
  refine ACall.bodyN Tryz.func102 J Tryz.ntmps102 Tryz.results102 J J ?_
  refine tSR<|rA J J<|rN<|tSR<|rM J J<|rM J J<|bndE h fun v1 e1 h=>r_callpB J (slices_IndexFunc_Event_Event_c fnb_h e1) (.cons (CoB.arrT .p0) (.cons (.co (.refl _)) .nil)) J J<|rA J J<|rN<|tS<|tSR<|rM J J<|ARun.qv (q_eql J J) J<|rN<|ATodo.cond_d J (fun hc=>?_) (fun hc=>?_)
  · refine have h := iteT hc h; tSR<|rM J J<|rA J J<|rN<|ATodo.ret<|?_
    obtain rfl := Option.some.inj h
    exact ImpX.here ⟨_,.cons (.tmp _ _ J) .nil,_,.cons .p0 .nil,⟨b_0,J,J⟩⟩
  · refine have h := iteF hc h; tK<|tS<|tSR<|rM J J<|ARun.qv (q_addw J J) J<|rA J J<|rN<|ATodo.block<|ATodo.loopI (fun x : (List EventS) × Int × Int=>slices_DeleteFunc_Event_Event_b1 fnb x.1 x.2.1 x.2.2) (fun x σ'=>σ' = ⟨42,[(0,.sl 16 b_0 0 x.1.length),(1,.func (.func fnb_F) fnb_C),(5,I x.2.1),(6,I x.2.2)],[(b_0,aE4 x.1)]⟩) h ?_ ?_
    · exact ImpX.lq [0] J J J
    · intro x z1 σ' J1 hmk h hJ1 hA1
      obtain ⟨l5, n6, n7⟩ := x
      obtain rfl := hmk
      replace h : slices_DeleteFunc_Event_Event_b1 fnb l5 n6 n7 = some z1 := h
      unfold slices_DeleteFunc_Event_Event_b1 at h
      refine tS<|tSR<|rM J J<|rM J J<|ARun.qv (t_len_sl J) J<|ARun.qv (q_lss J J) J<|rN<|ATodo.cond_d J (fun hc=>?_) (fun hc=>?_)
      · refine have h := iteT hc h; tK<|tS<|ATodo.block<|tSR<|rM J J<|rM J J<|bndE h fun v8 e2 h=>ARun.qv (t_index_sl J J J e2) J<|ARun.qv (t_load_aptr_agg (g := EventS.av) J J (.inl .p0) J e2 J) J<|n_alloc J J J J fun b9=>n_store_ptr J J J J .p0 J J<|rN<|tSR<|rM J J<|ARun.qv (q_load_ptr_all J J .p0 J) J<|bndE h fun v10 e3 h=>r_callvp J J (fnb_h e3) (CoL.refl _) J<|ARun.qv (q_not J) J<|rN<|ATodo.cut (fun σ'=>∃ (l11 : List EventS) (n12 : Int),slices_DeleteFunc_Event_Event_j1 n7 l11 n12 = some z1 ∧ σ' = ⟨42,[(0,.sl 16 b_0 0 l11.length),(1,.func (.func fnb_F) fnb_C),(5,I n12),(6,I n7)],[(b_0,aE4 l11)]⟩) ?_ ?_
        · refine ATodo.cond J (fun hc=>?_) (fun hc=>?_)
          · exact have h := iteT hc h; tSR<|rM J J<|rM J J<|ARun.qv (q_load_ptr_all J J .p0 J) J<|bndE h fun v13 e4 h=>ARun.qv (t_index_sl J J J e4) J<|t_store_aptr1 (g := EventS.av) (el' := v8) J J J J e4 J .p1 J<|ARun.ghost<|ImpX.eqs (s := 0) (av' := .sl 16 b_0 0 (l5.set n6.toNat v8).length) J (by rw [List.length_set])<|ImpX.here<|ARun.ghost<|ImpX.eqs (s := 17) (av' := .sl 16 b_0 0 (l5.set n6.toNat v8).length) J (by rw [List.length_set])<|ImpX.here<|ARun.ghost<|ImpX.eqs (s := 22) (av' := .sl 16 b_0 0 (l5.set n6.toNat v8).length) J (by rw [List.length_set])<|ImpX.here<|ARun.ghost<|ImpX.eqs (s := 30) (av' := .sl 16 b_0 0 (l5.set n6.toNat v8).length) J (by rw [List.length_set])<|ImpX.here<|rN<|tR<|rM J J<|ARun.qv (q_addw J J) J<|rA J J<|rN<|ATodo.stop<|ImpX.lq [1] ⟨l5.set n6.toNat v8,w64 (n6 + (1 : Int)),h,J⟩ J J
          · exact have h := iteFb hc h; tK<|ATodo.stop<|ImpX.lq [1] ⟨l5,n6,h,J⟩ J J
        · rintro σ' ⟨l11, n12, h, rfl⟩
          unfold slices_DeleteFunc_Event_Event_j1 at h
          refine ATodo.blk<|tR<|rM J J<|ARun.qv (q_addw J J) J<|rA J J<|rN<|ATodo.stop<|?_
          obtain rfl := Option.some.inj h
          exact hJ1 _ _ J<|ImpX.lq [0] J J J
      · refine have h := iteF hc h; ATodo.exit J<|have h := outL h hA1; ?_
        unfold slices_DeleteFunc_Event_Event_k2 at h
        refine tSR<|rM J J<|rM J J<|bndE h fun l14 e5 h=>ARun.qv (t_slice_sl J J (.some _ _ _ J) .none J J e5) J<|t_clear (g := EventS.av) (Z := (⟨[],(0 : Int),(0 : Int),(0 : Int),(0 : Int),[],[],[],(0 : Int),[],[],[],(0 : Int),(⟨(0 : Int),(0 : Int),(0 : Int)⟩ : Version)⟩ : EventS)) (L := n6) J J J J J J e5 .p0<|ARun.ghost<|ImpX.eqs (s := 0) (av' := .sl 16 b_0 0 (clr l5 n6 l14.length (⟨[],(0 : Int),(0 : Int),(0 : Int),(0 : Int),[],[],[],(0 : Int),[],[],[],(0 : Int),(⟨(0 : Int),(0 : Int),(0 : Int)⟩ : Version)⟩ : EventS)).length) J (congrArg (AV.sl 16 b_0 0) (clr_len e5))<|ImpX.here<|ARun.ghost<|ImpX.eqs (s := 17) (av' := .sl 16 b_0 0 (clr l5 n6 l14.length (⟨[],(0 : Int),(0 : Int),(0 : Int),(0 : Int),[],[],[],(0 : Int),[],[],[],(0 : Int),(⟨(0 : Int),(0 : Int),(0 : Int)⟩ : Version)⟩ : EventS)).length) J (congrArg (AV.sl 16 b_0 0) (clr_len e5))<|ImpX.here<|ARun.ghost<|ImpX.eqs (s := 36) (av' := .sl 16 b_0 0 (clr l5 n6 l14.length (⟨[],(0 : Int),(0 : Int),(0 : Int),(0 : Int),[],[],[],(0 : Int),[],[],[],(0 : Int),(⟨(0 : Int),(0 : Int),(0 : Int)⟩ : Version)⟩ : EventS)).length) J (congrArg (AV.sl 16 b_0 0) (clr_len e5))<|ImpX.here<|rN<|tSR<|rM J J<|rM J J<|bndE h fun l15 e6 h=>ARun.qv (t_slice_sl J J .none (.some _ _ _ J) J J e6) J<|rA J J<|ARun.ghost<|ImpX.takeT e6 .p0<|ImpX.here<|rN<|ATodo.ret<|?_
        obtain rfl := Option.some.inj h
        exact ImpX.here ⟨_,.cons (.tmp _ _ J) .nil,_,.cons .p0 .nil,⟨b_0,J,J⟩⟩

end Go.Proofs.YtnopmjdjgangdaaGreatDoor

