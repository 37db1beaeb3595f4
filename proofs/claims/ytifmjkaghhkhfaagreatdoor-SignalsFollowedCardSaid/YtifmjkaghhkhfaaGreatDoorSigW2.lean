/- The code computes the plain functions: proofs written by shal.py. -/
import Derived.Test.YtifmjkaghhkhfaaGreatDoorSigW1
set_option maxHeartbeats 4000000
set_option maxRecDepth 100000
set_option linter.unusedVariables false
set_option linter.unusedSimpArgs false
namespace Go.Proofs.YtifmjkaghhkhfaaGreatDoor
open Go Go.Eng Go.Proofs Go.Beacon
attribute [local irreducible] ARun ATodo AQ QV ACall ImpX AWp AM
theorem Q_SignalsFrom_c {p0x0 : List Firing} {r : (List Signal) × Int} (h : Q_SignalsFrom p0x0 = some r) : ACall Tryz.prog 22 [lE3 p0x0] [] (T1 (fun d_0=>[(d_0,aE2 r.1)]) (fun d_0=>.tup [.sl 6 d_0 0 r.1.length,I r.2])) := by
  unfold Q_SignalsFrom at h
  refine ACall.lessH ?_
  refine ACall.bodyN Tryz.func22 J Tryz.ntmps22 Tryz.results22 J J ?_
  refine tSR<|rA J J<|rA J J<|rN<|tS<|tSR<|rM J J<|ARun.qv (t_len J) J<|ARun.qv (q_gtr J J) J<|rN<|ATodo.cond_d J (fun hc=>?_) (fun hc=>?_)
  · refine have h := iteT hc h; tSR<|rA J J<|rA J J<|rN<|ATodo.ret<|?_
    obtain rfl := Option.some.inj h
    exact ImpX.arr (s := 2) 6 J fun b1=>ImpX.here ⟨_,.cons (.tmp _ _ J) (.cons (.tmp _ _ J) .nil),_,.cons .p0 .nil,⟨b1,J,J⟩⟩
  · refine have h := iteF hc h; tK<|tSR<|rA J J<|rN<|tS<|tSR<|rM J J<|ARun.qv (t_len J) J<|rM J J<|rN<|ATodo.block<|ATodo.loopI (fun x : (List Signal) × Int=>Q_SignalsFrom_b1 p0x0 x.1 x.2) (fun x σ'=>∃ (b5 : Bk),σ' = ⟨85,[(0,lE3 p0x0),(4,.sl 6 b5 0 x.1.length),(11,lE3 p0x0),(12,I (p0x0.length : Int)),(13,I x.2)],[(b5,aE2 x.1)]⟩) h ?_ ?_
    · exact ImpX.arr (s := 4) 6 J fun b8=>ImpX.lq [0] ⟨b8,J⟩ J J
    · intro x z1 σ' J1 hmk h hJ1 hA1
      obtain ⟨l6, n7⟩ := x
      obtain ⟨b5, rfl⟩ := hmk
      replace h : Q_SignalsFrom_b1 p0x0 l6 n7 = some z1 := h
      unfold Q_SignalsFrom_b1 at h
      refine tSR<|ARun.qv (q_lss J J) J<|rN<|tS<|ATodo.cond_d J (fun hc=>?_) (fun hc=>?_)
      · refine have h := iteT hc h; tK<|tS<|ATodo.block<|tSR<|rM J J<|bndE h fun v9 e1 h=>ARun.qv (t_index J J J e1 J J) J<|ARun.qv (q_load_rptr_agg J J J) J<|n_alloc J J J J fun b10=>rA J J<|n_store_ptr J J J J .p0 J J<|rN<|tS<|ATodo.block<|tSR<|rF J J J<|rL J J .p0 J J<|r_callp J (Q_MomentFault_c J) (CoL.refl _) J<|ARun.qv (q_neq J J) J<|rA J J<|rN<|ATodo.cond_d J (fun hc=>?_) (fun hc=>?_)
        · refine have h := iteT hc h; tSR<|rA J J<|rA J J<|rN<|ATodo.ret<|have h := outL h hA1; ?_
          obtain rfl := Option.some.inj h
          exact ImpX.arr (s := 2) 6 J fun b11=>ImpX.here ⟨_,.cons (.tmp _ _ J) (.cons (.tmp _ _ J) .nil),_,.cons .p0 .nil,⟨b11,J,J⟩⟩
        · refine have h := iteF hc h; tS<|ATodo.cut (fun σ'=>∃ (c12 : Bool),Q_SignalsFrom_j1 p0x0 l6 n7 v9 c12 = some z1 ∧ σ' = ⟨85,[(0,lE3 p0x0),(4,.sl 6 b5 0 l6.length),(5,I n7),(6,.ptr b10 0),(11,lE3 p0x0),(12,I (p0x0.length : Int)),(13,I n7),(23,.bool c12)],[(b5,aE2 l6),(b10,.cells (cE1 v9))]⟩) ?_ ?_
          · refine tR<|rF J J J<|rL J J .p0 J J<|bndE h fun v13 e2 h=>r_callp J (Q_Key_c e2) (CoL.refl _) J<|ARun.qv (q_not J) J<|rM J J<|ARun.guard J J J (fun hc=>?_) (fun hc=>?_)
            · exact have h := iteFb hc h; rF J J J<|rY J J J<|rL J J .p0 J J<|rY J J J<|bndE h fun v14 e3 h=>r_callp J (Q_Key_c e3) (CoL.refl _) J<|rY J J J<|ARun.qv (q_not J) J<|rE J J J<|rA J J<|rN<|ATodo.stop<|ImpX.lq [1,0] ⟨!v14,h,J⟩ J J
            · exact have h := iteT hc h; rG J J J J<|rG J J J J<|rG J J J J<|rT J J J<|rA J J<|rN<|ATodo.stop<|ImpX.lq [1,0] ⟨true,h,J⟩ J J
          · rintro σ' ⟨c12, h, rfl⟩
            unfold Q_SignalsFrom_j1 at h
            refine ATodo.cond J (fun hc=>?_) (fun hc=>?_)
            · refine have h := iteT hc h; tSR<|rA J J<|rA J J<|rN<|ATodo.ret<|have h := outL h hA1; ?_
              obtain rfl := Option.some.inj h
              exact ImpX.arr (s := 2) 6 J fun b15=>ImpX.here ⟨_,.cons (.tmp _ _ J) (.cons (.tmp _ _ J) .nil),_,.cons .p0 .nil,⟨b15,J,J⟩⟩
            · refine have h := iteFb hc h; tS<|ATodo.cut (fun σ'=>∃ (c16 : Bool),Q_SignalsFrom_j2 l6 n7 v9 c16 = some z1 ∧ σ' = ⟨85,[(0,lE3 p0x0),(4,.sl 6 b5 0 l6.length),(6,.ptr b10 0),(11,lE3 p0x0),(12,I (p0x0.length : Int)),(13,I n7),(34,.bool c16)],[(b5,aE2 l6),(b10,.cells (cE1 v9))]⟩) ?_ ?_
              · refine ATodo.regionM (id := 11) (A := [0,1,3,7,7,23,63,127,255,7,519,2047,7,7,8199,28679,61447,126983,7,262151,1048575,7,7,4194311,14680071,31457287,65011719,7,134217735,536870911,1073741823,2147483647,4294967295,8589934591,17179869183]) 35 mixed J (by kernel_rfl) (by kernel_rfl)<|AM.qv (q_move J) J<|AM.qv (q_gtr J J) J<|AM.qv (q_move J) J<|AM.guard_dt J J J (fun hc=>?_) (fun hc=>?_)
                · exact have h := iteT hc h; AM.qv (q_move J) J<|AM.guard_yes J J J<|AM.qv (q_move J) J<|AM.guard_yes J J J<|AM.qv (q_subw J J) J<|AM.guard_yes J J J<|bndE h fun v17 e4 h=>AM.qv (t_index J J J e4 J J) J<|AM.guard_yes J J J<|AM.qv (n_field_rptr J J) J<|AM.guard_yes J J J<|AM.qv (q_load_rptr J J J) J<|AM.guard_yes J J J<|AM.qv (n_field_ptr J J) J<|AM.guard_yes J J J<|AM.qv (q_load_ptr J J .p1 J) J<|AM.guard_yes J J J<|AM.callp J (cmp_Compare_int_c J) (CoL.refl _) J<|AM.guard_yes J J J<|AM.qv (q_move J) J<|AM.guard_yes J J J<|AM.qv (q_move J) J<|AM.guard_yes J J J<|AM.qv (q_subw J J) J<|AM.guard_yes J J J<|bndE h fun v18 e5 h=>AM.qv (t_index J J J e5 J J) J<|AM.guard_yes J J J<|AM.qv (n_field_rptr J J) J<|AM.guard_yes J J J<|AM.qv (q_load_rptr J J J) J<|AM.guard_yes J J J<|AM.qv (n_field_ptr J J) J<|AM.guard_yes J J J<|AM.qv (q_load_ptr J J .p1 J) J<|AM.guard_yes J J J<|AM.callp J (strings_Compare_c J) (CoL.refl _) J<|AM.guard_yes J J J<|AM.qv (q_move J) J<|AM.guard_yes J J J<|AM.qv (q_move J) J<|AM.guard_yes J J J<|AM.qv (q_subw J J) J<|AM.guard_yes J J J<|bndE h fun v19 e6 h=>AM.qv (t_index J J J e6 J J) J<|AM.guard_yes J J J<|AM.qv (n_field_rptr J J) J<|AM.guard_yes J J J<|AM.qv (q_load_rptr J J J) J<|AM.guard_yes J J J<|AM.qv (n_field_ptr J J) J<|AM.guard_yes J J J<|AM.qv (q_load_ptr J J .p1 J) J<|AM.guard_yes J J J<|AM.callp J (strings_Compare_c J) (CoL.refl _) J<|AM.guard_yes J J J<|AM.buildSliceL (xs := ([(cmp_Compare_int v17.At v9.At),(Lib.compareBytes v18.Device v9.Device),(Lib.compareBytes v19.Rule v9.Rule)] : List Int).map I) J J J J J J<|AM.guard_yes J J J<|bndE h fun v20 e7 h=>AM.callp J (cmp_Or_int_c e7) (CoL.refl _) J<|AM.guard_yes J J J<|AM.qv (q_geq J J) J<|AM.qv (q_pick_t J J) J<|AM.qv (q_assign J) J<|AM.nil<|rN<|ATodo.stop<|ImpX.lq [0,0] ⟨decide ((0 : Int) ≤ v20),h,J⟩ J J
                · exact have h := iteF hc h; AM.guard_no J J J J<|AM.guard_no J J J J<|AM.guard_no J J J J<|AM.guard_no J J J J<|AM.guard_no J J J J<|AM.guard_no J J J J<|AM.guard_no J J J J<|AM.guard_no J J J J<|AM.guard_no J J J J<|AM.guard_no J J J J<|AM.guard_no J J J J<|AM.guard_no J J J J<|AM.guard_no J J J J<|AM.guard_no J J J J<|AM.guard_no J J J J<|AM.guard_no J J J J<|AM.guard_no J J J J<|AM.guard_no J J J J<|AM.guard_no J J J J<|AM.guard_no J J J J<|AM.guard_no J J J J<|AM.guard_no J J J J<|AM.guard_no J J J J<|AM.guard_no J J J J<|AM.guard_no J J J J<|AM.guard_no J J J J<|AM.guard_no J J J J<|AM.guard_no J J J J<|AM.guard_no J J J J<|AM.qv (q_pick_f J J) J<|AM.qv (q_assign J) J<|AM.nil<|rN<|ATodo.stop<|ImpX.lq [0,0] ⟨false,h,J⟩ J J
              · rintro σ' ⟨c16, h, rfl⟩
                unfold Q_SignalsFrom_j2 at h
                refine ATodo.cond J (fun hc=>?_) (fun hc=>?_)
                · refine have h := iteT hc h; tSR<|rA J J<|rA J J<|rN<|ATodo.ret<|have h := outL h hA1; ?_
                  obtain rfl := Option.some.inj h
                  exact ImpX.arr (s := 2) 6 J fun b21=>ImpX.here ⟨_,.cons (.tmp _ _ J) (.cons (.tmp _ _ J) .nil),_,.cons .p0 .nil,⟨b21,J,J⟩⟩
                · refine have h := iteFb hc h; tK<|ATodo.blk<|tSR<|rF J J J<|rL J J .p1 J J<|rF J J J<|rL J J .p1 J J<|rF J J J<|rL J J .p1 J J<|ARun.qv (n_build J J J J J) J<|n_alloc J J J J fun b22=>n_store_ptr J J J J .p0 J J<|rN<|tS<|tSR<|rF J J J<|rL J J .p2 J J<|rN<|ATodo.cut (fun σ'=>∃ (n23 : Int),Q_SignalsFrom_j3 l6 n7 v9 n23 = some z1 ∧ σ' = ⟨85,[(0,lE3 p0x0),(4,.sl 6 b5 0 l6.length),(7,.ptr b22 0),(11,lE3 p0x0),(12,I (p0x0.length : Int)),(13,I n7)],[(b5,aE2 l6),(b22,.cells [I v9.At,I n23,.str v9.Device,.str v9.Rule,.str [],I (0 : Int)])]⟩) ?_ ?_
                  · refine ATodo.cond J (fun hc=>?_) (fun hc=>?_)
                    · exact have h := iteT hc h; tR<|rF J J J<|n_store_ptr J J J J .p0 J J<|rN<|ATodo.stop<|ImpX.lq [1,0] ⟨(1 : Int),h,J⟩ J J
                    · exact have h := iteFb hc h; tK<|ATodo.stop<|ImpX.lq [1,0] ⟨(2 : Int),h,J⟩ J J
                  · rintro σ' ⟨n23, h, rfl⟩
                    unfold Q_SignalsFrom_j3 at h
                    refine tR<|rM J J<|ARun.qv (q_load_ptr_all J J .p1 J) J<|n_buildSliceL (xs := ([(⟨v9.At,n23,v9.Device,v9.Rule,[],(0 : Int)⟩ : Signal)]).map Signal.av) J J J J J J<|bndE h fun l24 e8 h=>t_append (g := Signal.av) J J J J J J J J (.list _) e8 (fun _=>.p0) J fun b25=>rA J J<|rN<|ATodo.blk<|tR<|ARun.qv (q_addw J J) J<|rM J J<|rN<|ATodo.stop<|?_
                    obtain rfl := Option.some.inj h
                    exact hJ1 _ _ J<|ImpX.lq [0] ⟨b25,J⟩ J J
      · refine have h := iteF hc h; ATodo.exit J<|have h := outL h hA1; tSR<|rM J J<|rA J J<|rA J J<|rN<|ATodo.ret<|?_
        obtain rfl := Option.some.inj h
        exact ImpX.here ⟨_,.cons (.tmp _ _ J) (.cons (.tmp _ _ J) .nil),_,.cons .p0 .nil,⟨b5,J,J⟩⟩

theorem alarm_byName_c [GI : GTab] {p0x0 : Alarm_name} {p1x0 : Alarm_name} {r : Int} (h : alarm_byName p0x0 p1x0 = some r) : Pu Tryz.prog 152 [Alarm_name.av p0x0,Alarm_name.av p1x0] (I r) := by
  unfold alarm_byName at h
  refine ACall.bodyN Tryz.func152 J Tryz.ntmps152 Tryz.results152 J J ?_
  refine tSR<|n_box J J J J fun b1=>n_box J J J J fun b2=>rA J J<|rN<|tS<|ATodo.regionM (id := 1) (A := [0,1,0,4,15,0,32,0,128,511,1023,2047,4095]) 13 mixed J (by kernel_rfl) (by kernel_rfl)<|AM.qv (n_field_ptr J J) J<|AM.qv (q_load_ptr J J .p1 J) J<|AM.qv (n_field_ptr J J) J<|AM.qv (q_load_ptr J J .p0 J) J<|AM.callp J (strings_Compare_c J) (CoL.refl _) J<|AM.qv (n_field_ptr J J) J<|AM.qv (q_load_ptr J J .p1 J) J<|AM.qv (n_field_ptr J J) J<|AM.qv (q_load_ptr J J .p0 J) J<|AM.callp J (strings_Compare_c J) (CoL.refl _) J<|AM.buildSliceL (xs := ([(Lib.compareBytes p0x0.device_ p1x0.device_),(Lib.compareBytes p0x0.rule_ p1x0.rule_)] : List Int).map I) J J J J J J<|bndE h fun v3 e1 h=>AM.callp J (cmp_Or_int_c e1) (CoL.refl _) J<|AM.qv (q_assign J) J<|AM.nil<|rN<|ATodo.ret<|?_
  obtain rfl := Option.some.inj h
  exact ImpX.here ⟨_,.cons (.tmp _ _ J) .nil,J⟩

theorem alarm_newHouse_1x_c [GI : GTab] {p0x0 : Alarm_life} {p1x0 : Alarm_life} {r : Int} (h : alarm_newHouse_1x p0x0 p1x0 = some r) : Pu Tryz.prog 151 [.rptr [.str p0x0.name_.device_,.str p0x0.name_.rule_,I p0x0.state_,I p0x0.since_,lE0 p0x0.raises_,I p0x0.shelved_,lE5 p0x0.up_,lE5 p0x0.fresh_,lE5 p0x0.aside_,lE0 p0x0.acks_,lE0 p0x0.waits_],.rptr [.str p1x0.name_.device_,.str p1x0.name_.rule_,I p1x0.state_,I p1x0.since_,lE0 p1x0.raises_,I p1x0.shelved_,lE5 p1x0.up_,lE5 p1x0.fresh_,lE5 p1x0.aside_,lE0 p1x0.acks_,lE0 p1x0.waits_]] (I r) := by
  unfold alarm_newHouse_1x at h
  refine ACall.bodyN Tryz.func151 J Tryz.ntmps151 Tryz.results151 J J ?_
  refine tSR<|rA J J<|rN<|tS<|ATodo.regionM (id := 1) (A := [0,1,3,7,0,16,48,112,255,511]) 10 mixed J (by kernel_rfl) (by kernel_rfl)<|AM.qv (q_move J) J<|AM.qv (q_nilCheck_rptr J) J<|AM.qv (n_field_rptr J J) J<|AM.qv (n_load_rptr_part J J J J) J<|AM.qv (q_move J) J<|AM.qv (q_nilCheck_rptr J) J<|AM.qv (n_field_rptr J J) J<|AM.qv (n_load_rptr_part J J J J) J<|bndE h fun v1 e1 h=>AM.callp J (alarm_byName_c e1) (CoL.refl _) J<|AM.qv (q_assign J) J<|AM.nil<|rN<|ATodo.ret<|?_
  obtain rfl := Option.some.inj h
  exact ImpX.here ⟨_,.cons (.tmp _ _ J) .nil,J⟩

theorem slices_SortFunc__alarm_life_alarm_life_k : SortP Tryz.prog 150 := ⟨fun enc h1 cf hO g cb blk off cap d w eg hc hH hb hs=>Any.slices_SortFunc_eq Tryz.sortP150 enc h1 cf hO g cb blk off cap d w eg hc hH hb hs,fun p cap fv w=>AnyF.slices_SortFunc_none { Tryz.sortP150 with } p cap fv w⟩

theorem alarm_newHouse_c [GI : GTab] {p0x0 : List Signal} {r : Alarm_house} (h : alarm_newHouse p0x0 = some r) : ACall Tryz.prog 91 [lE2 p0x0] [] (T6 (fun d_0 d_0x0 d_0x1 d_0x2 d_0x2o d_0x2s=>[(d_0,.cells [.mref d_0x0,.sl 1 d_0x1 0 r.order_.length]),(d_0x0,.mp (r.all_.map (fun e=>(Alarm_name.av e.1,(pA d_0x2o) e.2)))),(d_0x1,.arr 1 (r.order_.map (pA d_0x2o))),(d_0x2,.pool (araE kE0 d_0x2o d_0x2s r.ar0))]) (fun d_0 d_0x0 d_0x1 d_0x2 d_0x2o d_0x2s=>.ptr d_0 0)) := by
  unfold alarm_newHouse at h
  refine ACall.lessH ?_
  refine ACall.bodyN Tryz.func91 J Tryz.ntmps91 Tryz.results91 J J ?_
  refine tSR<|rA J J<|rN<|tSR<|t_makeMap J fun b1=>ARun.qv (n_build J J J J J) J<|n_box J J J J fun b2=>ARun.ghost<|ImpX.poolNew (kb := kE0) fun b3 bo4 bs5=>ImpX.here<|rA J J<|rN<|tS<|tSR<|rM J J<|ARun.qv (t_len J) J<|rM J J<|rN<|ATodo.block<|ATodo.loopI (fun x : (List (Alarm_name × Int)) × (List Alarm_life) × (List Int) × Int=>alarm_newHouse_b1 p0x0 x.1 x.2.1 x.2.2.1 x.2.2.2) (fun x σ'=>∃ (bo15 : Nat → Bk) (bs16 : Nat → Nat → Bk) (b17 : Bk),σ' = ⟨55,[(3,.ptr b2 0),(11,lE2 p0x0),(12,I (p0x0.length : Int)),(13,I x.2.2.2)],[(b2,.cells [.mref b1,.sl 1 b17 0 x.2.2.1.length]),(b1,.mp (x.1.map (fun e=>(Alarm_name.av e.1,(pA bo15) e.2)))),(b3,.pool (araE kE0 bo15 bs16 x.2.1)),(b17,.arr 1 (x.2.2.1.map (pA bo15)))]⟩) h ?_ ?_
  · exact ImpX.arrBox (j := 1) 1 (fun _=>.p1) J (fun _=>J) (fun _=>J) fun b20=>ImpX.lq [2,2,1,0] ⟨bo4,bs5,b20,J⟩ J J
  · intro x z1 σ' J1 hmk h hJ1 hA1
    obtain ⟨l13, l14, l18, n19⟩ := x
    obtain ⟨bo15, bs16, b17, rfl⟩ := hmk
    replace h : alarm_newHouse_b1 p0x0 l13 l14 l18 n19 = some z1 := h
    unfold alarm_newHouse_b1 at h
    refine tSR<|ARun.qv (q_lss J J) J<|rN<|tS<|ATodo.cond_d J (fun hc=>?_) (fun hc=>?_)
    · refine have h := iteT hc h; tK<|tS<|ATodo.cut (fun σ'=>∃ (bo23 : Nat → Bk) (bs24 : Nat → Nat → Bk) (b25 : Bk) (l21 : List (Alarm_name × Int)) (l22 : List Alarm_life) (l26 : List Int),alarm_newHouse_j1 n19 l21 l22 l26 = some z1 ∧ σ' = ⟨55,[(3,.ptr b2 0),(11,lE2 p0x0),(12,I (p0x0.length : Int)),(13,I n19)],[(b2,.cells [.mref b1,.sl 1 b25 0 l26.length]),(b1,.mp (l21.map (fun e=>(Alarm_name.av e.1,(pA bo23) e.2)))),(b3,.pool (araE kE0 bo23 bs24 l22)),(b25,.arr 1 (l26.map (pA bo23)))]⟩) ?_ ?_
      · refine ATodo.block<|tSR<|bndE h fun v27 e1 h=>ARun.qv (t_index J J J e1 J J) J<|ARun.qv (q_load_rptr_agg J J J) J<|n_alloc J J J J fun b28=>n_store_ptr J J J J .p0 J J<|rN<|tSR<|rF J J J<|rL J J .p0 J J<|rF J J J<|rL J J .p0 J J<|ARun.qv (n_build J J J J J) J<|n_alloc J J J J fun b29=>n_store_ptr J J J J .p0 J J<|rN<|tS<|ATodo.regionM (id := 6) (A := [0,1,3,7,0,31,63]) 7 mixed J (by kernel_rfl) (by kernel_rfl)<|AM.qv (q_move J) J<|AM.qv (q_nilCheck_ptr J) J<|AM.qv (n_field_ptr J J) J<|AM.qv (q_load_ptr J J .p2 J) J<|AM.qv (q_load_ptr_all J J .p0 J) J<|optE h (fun e2 h=>?_) (fun n30 e2 h=>?_)
        · exact AM.qv (t_lookupA0 (gk := Alarm_name.av) (gv := (pA bo15)) (M := l13) (key := (⟨v27.Device,v27.Rule⟩ : Alarm_name)) J J .p3 J e2) J<|AM.qv (q_ppneql J J) J<|AM.nil<|rN<|ATodo.cond_t J<|tSR<|ARun.qv (q_load_ptr_all J J .p0 J) J<|ARun.qv (n_build J J J J J) J<|n_box J J J J fun b31=>rA J J<|rN<|tS<|ATodo.regionM (id := 8) (A := [0,1,3,7,0,0,63]) 6 mixed J (by kernel_rfl) (by kernel_rfl)<|AM.qv (q_move J) J<|AM.qv (q_nilCheck_ptr J) J<|AM.qv (n_field_ptr J J) J<|AM.qv (q_load_ptr J J .p3 J) J<|AM.qv (q_load_ptr_all J J .p1 J) J<|AM.qv (q_move J) J<|AM.nil<|ARun.ghost<|ImpX.arrBox (j := 4) 1 (fun _=>.p0) J (fun _=>J) (fun _=>J) fun b32=>ImpX.here<|ARun.ghost<|ImpX.arrBox (j := 6) 2 (fun _=>.p1) J (fun _=>J) (fun _=>J) fun b33=>ImpX.here<|ARun.ghost<|ImpX.arrBox (j := 7) 2 (fun _=>.p2) J (fun _=>J) (fun _=>J) fun b34=>ImpX.here<|ARun.ghost<|ImpX.arrBox (j := 8) 2 (fun _=>.p3) J (fun _=>J) (fun _=>J) fun b35=>ImpX.here<|ARun.ghost<|ImpX.arrBox (j := 9) 1 (fun _=>.p4) J (fun _=>J) (fun _=>J) fun b36=>ImpX.here<|ARun.ghost<|ImpX.arrBox (j := 10) 1 (fun _=>.p5) J (fun _=>J) (fun _=>J) fun b37=>ImpX.here<|bndE h fun u38 e3 h=>ARun.ghost<|ImpX.araAddN (kb := kE0) (v := (⟨(⟨v27.Device,v27.Rule⟩ : Alarm_name),(0 : Int),(0 : Int),[],(0 : Int),[],[],[],[],[]⟩ : Alarm_life)) (s := nbk [b32,b33,b34,b35,b36,b37]) (.cons .p6 (.cons .p5 (.cons .p4 (.cons .p3 (.cons .p2 (.cons .p1 (.cons .p0 .nil))))))) J (fun _ _=>.p4) fun bo39 bs40 hEe4 hNe4=>ImpX.here<|ARun.ghost<|ImpX.obEq (re_mp hEe4 (inB_l e3)) .p3<|ImpX.here<|ARun.ghost<|ImpX.obEq (re_arr hEe4 (inB_r e3)) .p5<|ImpX.here<|ARun.ghost<|ImpX.eqs (s := 31) (av' := .ptr (bo39 (l14.length : Int).toNat) 0) J (re_new hNe4 _)<|ImpX.here<|ARun.ghost<|ImpX.eqs (s := 7) (av' := .ptr (bo39 (l14.length : Int).toNat) 0) J (re_new hNe4 _)<|ImpX.here<|ARun.ghost<|ImpX.eqs (s := 37) (av' := .ptr (bo39 (l14.length : Int).toNat) 0) J (re_new hNe4 _)<|ImpX.here<|t_mapUpdate (gk := Alarm_name.av) (gv := (pA bo39)) (M := l13) (key := (⟨v27.Device,v27.Rule⟩ : Alarm_name)) (v := (l14.length : Int)) J J J J .p3<|rN<|tR<|rM J J<|rM J J<|ARun.qv (q_nilCheck_ptr J) J<|rF J J J<|rL J J .p2 J J<|rM J J<|n_buildSliceL (xs := ([(l14.length : Int)]).map (pA bo39)) J J J J J J<|bndE h fun l41 e5 h=>t_append (g := (pA bo39)) J J J J J J J J (.list _) e5 (fun _=>.p5) J fun b42=>ARun.qv (q_nilCheck_ptr J) J<|rF J J J<|n_store_ptr J J J J .p2 J J<|rN<|ATodo.blk<|ATodo.stop<|ImpX.lq [2,2,2,2] ⟨bo39,bs40,b42,mset l13 (⟨v27.Device,v27.Rule⟩ : Alarm_name) (l14.length : Int),l14 ++ [(⟨(⟨v27.Device,v27.Rule⟩ : Alarm_name),(0 : Int),(0 : Int),[],(0 : Int),[],[],[],[],[]⟩ : Alarm_life)],l41,h,J⟩ J J
        · exact AM.qv (t_lookupA1 (gk := Alarm_name.av) (gv := (pA bo15)) (M := l13) (key := (⟨v27.Device,v27.Rule⟩ : Alarm_name)) J J .p3 e2) J<|AM.qv (q_ppeql J J) J<|AM.nil<|rN<|ATodo.cond_f J<|tK<|ATodo.blk<|ATodo.stop<|ImpX.lq [2,2,2,2] ⟨bo15,bs16,b17,l13,l14,l18,h,J⟩ J J
      · rintro σ' ⟨bo23, bs24, b25, l21, l22, l26, h, rfl⟩
        unfold alarm_newHouse_j1 at h
        refine tR<|ARun.qv (q_addw J J) J<|rM J J<|rN<|ATodo.stop<|?_
        obtain rfl := Option.some.inj h
        exact hJ1 _ _ J<|ImpX.lq [0,0,0,0] ⟨bo23,bs24,b25,J⟩ J J
    · refine have h := iteF hc h; ATodo.exit J<|have h := outL h hA1; ?_
      unfold alarm_newHouse_k2 at h
      refine tSR<|rM J J<|ARun.qv (q_nilCheck_ptr J) J<|rF J J J<|rL J J .p0 J J<|bndE h fun l43 e6 h=>t_call0 J (sortA_acall slices_SortFunc__alarm_life_alarm_life_k KB0 (fun e=>alarm_newHouse_1x_c (GI := strongT) e) e6) (CoL.refl _) (.cons .p3 (.cons .p2 .nil)) J J<|ARun.ghost<|ImpX.eqs (s := 52) (av' := .sl 1 b17 0 l43.length) J (congrArg (AV.sl 1 b17 0) (sortA_len e6))<|ImpX.here<|ARun.ghost<|ImpX.eqBox (j := 1) (av' := .sl 1 b17 0 l43.length) .p2 J (congrArg (AV.sl 1 b17 0) (sortA_len e6)) J<|ImpX.here<|rN<|tSR<|rM J J<|rA J J<|rN<|ATodo.ret<|?_
      obtain rfl := Option.some.inj h
      exact ImpX.here ⟨_,.cons (.tmp _ _ J) .nil,_,.cons .p2 (.cons .p2 (.cons .p0 (.cons .p0 .nil))),⟨b2,b1,b17,b3,bo15,bs16,J,J⟩⟩

theorem alarm_life_turn_1x_c [GI : GTab] {b_0 : Bk} {p0x0 : List Window} {r : Int} (h : alarm_life_turn_1x p0x0 = some r) : ACall Tryz.prog 249 [.sl 2 b_0 0 p0x0.length] [(b_0,aE5 p0x0)] (T0 ([(b_0,aE5 p0x0)]) (.aptr 2 b_0 r.toNat 0)) := by
  unfold alarm_life_turn_1x at h
  refine ACall.lessH ?_
  refine ACall.bodyN Tryz.func249 J Tryz.ntmps249 Tryz.results249 J J ?_
  refine tSR<|rA J J<|rN<|tSR<|rM J J<|rM J J<|ARun.qv (t_len_sl J) J<|ARun.qv (q_subw J J) J<|bndE h fun v1 e1 h=>ARun.qv (t_index_sl J J J e1) J<|rA J J<|rN<|ATodo.ret<|?_
  obtain rfl := Option.some.inj h
  exact ImpX.here ⟨_,.cons (.tmp _ _ J) .nil,_,.cons .p0 .nil,⟨J,J⟩⟩

theorem alarm_life_turn_c [GI : GTab] {b_0 : Bk} {b_0x4 : Bk} {b_0x6 : Bk} {b_0x7 : Bk} {b_0x8 : Bk} {b_0x9 : Bk} {b_0x10 : Bk} {p0x0 : Alarm_life} {p1x0 : Int} {p2x0 : Int} {r : Alarm_life} (h : alarm_life_turn p0x0 p1x0 p2x0 = some r) : ACall Tryz.prog 206 [.ptr b_0 0,I p1x0,I p2x0] [(b_0,.cells (cE2 p0x0 b_0x4 b_0x6 b_0x7 b_0x8 b_0x9 b_0x10)),(b_0x4,aE0 p0x0.raises_),(b_0x6,aE5 p0x0.up_),(b_0x7,aE5 p0x0.fresh_),(b_0x8,aE5 p0x0.aside_),(b_0x9,aE0 p0x0.acks_),(b_0x10,aE0 p0x0.waits_)] (T6 (fun c_0x4 c_0x6 c_0x7 c_0x8 c_0x9 c_0x10=>[(b_0,.cells (cE2 r c_0x4 c_0x6 c_0x7 c_0x8 c_0x9 c_0x10)),(c_0x4,aE0 r.raises_),(c_0x6,aE5 r.up_),(c_0x7,aE5 r.fresh_),(c_0x8,aE5 r.aside_),(c_0x9,aE0 r.acks_),(c_0x10,aE0 r.waits_)]) (fun c_0x4 c_0x6 c_0x7 c_0x8 c_0x9 c_0x10=>.tup [])) := by
  unfold alarm_life_turn at h
  refine ACall.lessH ?_
  refine ACall.bodyN Tryz.func206 J Tryz.ntmps206 Tryz.results206 J J ?_
  refine tSR<|rA J J<|rN<|tS<|ATodo.cut (fun σ'=>∃ (c1 : Bool) (c2 : Bool),alarm_life_turn_j1 p0x0 p1x0 p2x0 c1 c2 = some r ∧ σ' = ⟨92,[(0,.ptr b_0 0),(1,I p1x0),(2,I p2x0),(6,.func (.func 249) []),(7,.bool c1),(8,.bool c2)],[(b_0,.cells (cE2 p0x0 b_0x4 b_0x6 b_0x7 b_0x8 b_0x9 b_0x10)),(b_0x4,aE0 p0x0.raises_),(b_0x6,aE5 p0x0.up_),(b_0x7,aE5 p0x0.fresh_),(b_0x8,aE5 p0x0.aside_),(b_0x9,aE0 p0x0.acks_),(b_0x10,aE0 p0x0.waits_)]⟩) ?_ ?_
  · refine tR<|rM J J<|ARun.qv (q_nilCheck_ptr J) J<|rF J J J<|rL J J .p0 J J<|ARun.qv (q_eql J J) J<|rM J J<|ARun.guard_df J J J (fun hc=>?_) (fun hc=>?_)
    · rw [orFd hc] at h
      refine rM J J<|rY J J J<|ARun.qv (q_nilCheck_ptr J) J<|rY J J J<|rF J J J<|rY J J J<|rL J J .p0 J J<|rY J J J<|ARun.qv (q_eql J J) J<|rE J J J<|rM J J<|ARun.qv (q_eql J J) J<|rM J J<|ARun.guard_df J J J (fun hc=>?_) (fun hc=>?_)
      · rw [orFd hc] at h
        exact rM J J<|rY J J J<|ARun.qv (q_eql J J) J<|rE J J J<|rA J J<|rA J J<|rN<|ATodo.stop<|ImpX.lq [0,0,0,0,0,0,0] ⟨decide (p0x0.state_ = (2 : Int)),decide (p1x0 = (2 : Int)),h,J⟩ J J
      · rw [orTd hc] at h
        exact rG J J J J<|rT J J J<|rA J J<|rA J J<|rN<|ATodo.stop<|ImpX.lq [0,0,0,0,0,0,0] ⟨decide (p0x0.state_ = (2 : Int)),true,h,J⟩ J J
    · rw [orTd hc] at h
      refine rG J J J J<|rG J J J J<|rG J J J J<|rG J J J J<|rT J J J<|rM J J<|ARun.qv (q_eql J J) J<|rM J J<|ARun.guard_df J J J (fun hc=>?_) (fun hc=>?_)
      · rw [orFd hc] at h
        exact rM J J<|rY J J J<|ARun.qv (q_eql J J) J<|rE J J J<|rA J J<|rA J J<|rN<|ATodo.stop<|ImpX.lq [0,0,0,0,0,0,0] ⟨true,decide (p1x0 = (2 : Int)),h,J⟩ J J
      · rw [orTd hc] at h
        exact rG J J J J<|rT J J J<|rA J J<|rA J J<|rN<|ATodo.stop<|ImpX.lq [0,0,0,0,0,0,0] ⟨true,true,h,J⟩ J J
  · rintro σ' ⟨c1, c2, h, rfl⟩
    unfold alarm_life_turn_j1 at h
    refine tS<|tSR<|rM J J<|ARun.qv (q_nilCheck_ptr J) J<|rF J J J<|rL J J .p0 J J<|ARun.qv (q_eql J J) J<|rN<|ATodo.cut (fun σ'=>∃ (l3 : List Window),alarm_life_turn_j2 p0x0 p1x0 p2x0 c1 c2 l3 = some r ∧ σ' = ⟨92,[(0,.ptr b_0 0),(1,I p1x0),(2,I p2x0),(6,.func (.func 249) []),(7,.bool c1),(8,.bool c2)],[(b_0,.cells [.str p0x0.name_.device_,.str p0x0.name_.rule_,I p0x0.state_,I p0x0.since_,.sl 1 b_0x4 0 p0x0.raises_.length,I p0x0.shelved_,.sl 2 b_0x6 0 p0x0.up_.length,.sl 2 b_0x7 0 l3.length,.sl 2 b_0x8 0 p0x0.aside_.length,.sl 1 b_0x9 0 p0x0.acks_.length,.sl 1 b_0x10 0 p0x0.waits_.length]),(b_0x4,aE0 p0x0.raises_),(b_0x6,aE5 p0x0.up_),(b_0x7,aE5 l3),(b_0x8,aE5 p0x0.aside_),(b_0x9,aE0 p0x0.acks_),(b_0x10,aE0 p0x0.waits_)]⟩) ?_ ?_
    · refine ATodo.cond_d J (fun hc=>?_) (fun hc=>?_)
      · exact have h := iteT hc h; tR<|rM J J<|rM J J<|ARun.qv (q_nilCheck_ptr J) J<|rF J J J<|rL J J .p0 J J<|bndE h fun v4 e1 h=>t_callv0 J J J (alarm_life_turn_1x_c e1) (CoL.refl _) (.cons .p3 .nil) J J<|rM J J<|ARun.qv (q_nilCheck_aptr J) J<|ARun.qv (t_field_aptr J J) J<|bndE h fun v5 e2 h=>t_store_aptr1 (g := Window.av) (el' := (⟨v5.From,p2x0⟩ : Window)) J J J J e2 J .p0 J<|ARun.ghost<|ImpX.eqs (s := 36) (av' := .sl 2 b_0x7 0 (p0x0.fresh_.set v4.toNat (⟨v5.From,p2x0⟩ : Window)).length) J (by rw [List.length_set])<|ImpX.here<|ARun.ghost<|ImpX.eqBox (j := 7) (av' := .sl 2 b_0x7 0 (p0x0.fresh_.set v4.toNat (⟨v5.From,p2x0⟩ : Window)).length) .p1 J (by rw [List.length_set]) J<|ImpX.here<|rN<|ATodo.stop<|ImpX.lq [1,1,1,0,0,0,0] ⟨p0x0.fresh_.set v4.toNat (⟨v5.From,p2x0⟩ : Window),h,J⟩ J J
      · exact have h := iteF hc h; tK<|ATodo.stop<|ImpX.lq [0,0,0,0,0,0,0] ⟨p0x0.fresh_,h,J⟩ J J
    · rintro σ' ⟨l3, h, rfl⟩
      unfold alarm_life_turn_j2 at h
      refine tS<|tS<|ATodo.cut (fun σ'=>∃ (c6 : Bool),alarm_life_turn_j3 p0x0 p1x0 p2x0 c1 c2 l3 c6 = some r ∧ σ' = ⟨92,[(0,.ptr b_0 0),(1,I p1x0),(2,I p2x0),(6,.func (.func 249) []),(7,.bool c1),(8,.bool c2),(45,.bool c6)],[(b_0,.cells [.str p0x0.name_.device_,.str p0x0.name_.rule_,I p0x0.state_,I p0x0.since_,.sl 1 b_0x4 0 p0x0.raises_.length,I p0x0.shelved_,.sl 2 b_0x6 0 p0x0.up_.length,.sl 2 b_0x7 0 l3.length,.sl 2 b_0x8 0 p0x0.aside_.length,.sl 1 b_0x9 0 p0x0.acks_.length,.sl 1 b_0x10 0 p0x0.waits_.length]),(b_0x4,aE0 p0x0.raises_),(b_0x6,aE5 p0x0.up_),(b_0x7,aE5 l3),(b_0x8,aE5 p0x0.aside_),(b_0x9,aE0 p0x0.acks_),(b_0x10,aE0 p0x0.waits_)]⟩) ?_ ?_
      · refine tR<|rM J J<|rM J J<|ARun.guard J J J (fun hc=>?_) (fun hc=>?_)
        · rw [andTb hc] at h
          exact rM J J<|rY J J J<|ARun.qv (q_not J) J<|rT J J J<|rN<|ATodo.stop<|ImpX.lq [0,0,0,0,0,0,0] ⟨!c2,h,J⟩ J J
        · rw [andFb hc] at h
          exact rG J J J J<|rE J J J<|rN<|ATodo.stop<|ImpX.lq [0,0,0,0,0,0,0] ⟨false,h,J⟩ J J
      · rintro σ' ⟨c6, h, rfl⟩
        unfold alarm_life_turn_j3 at h
        refine ATodo.cut (fun σ'=>∃ (l7 : List Window),alarm_life_turn_j4 p0x0 p1x0 p2x0 c1 c2 l3 l7 = some r ∧ σ' = ⟨92,[(0,.ptr b_0 0),(1,I p1x0),(2,I p2x0),(7,.bool c1),(8,.bool c2)],[(b_0,.cells [.str p0x0.name_.device_,.str p0x0.name_.rule_,I p0x0.state_,I p0x0.since_,.sl 1 b_0x4 0 p0x0.raises_.length,I p0x0.shelved_,.sl 2 b_0x6 0 l7.length,.sl 2 b_0x7 0 l3.length,.sl 2 b_0x8 0 p0x0.aside_.length,.sl 1 b_0x9 0 p0x0.acks_.length,.sl 1 b_0x10 0 p0x0.waits_.length]),(b_0x4,aE0 p0x0.raises_),(b_0x6,aE5 l7),(b_0x7,aE5 l3),(b_0x8,aE5 p0x0.aside_),(b_0x9,aE0 p0x0.acks_),(b_0x10,aE0 p0x0.waits_)]⟩) ?_ ?_
        · refine ATodo.cond J (fun hc=>?_) (fun hc=>?_)
          · exact have h := iteT hc h; tR<|rM J J<|rM J J<|ARun.qv (q_nilCheck_ptr J) J<|rF J J J<|rL J J .p0 J J<|bndE h fun v8 e3 h=>t_callv0 J J J (alarm_life_turn_1x_c e3) (CoL.refl _) (.cons .p2 .nil) J J<|rM J J<|ARun.qv (q_nilCheck_aptr J) J<|ARun.qv (t_field_aptr J J) J<|bndE h fun v9 e4 h=>t_store_aptr1 (g := Window.av) (el' := (⟨v9.From,p2x0⟩ : Window)) J J J J e4 J .p0 J<|ARun.ghost<|ImpX.eqs (s := 50) (av' := .sl 2 b_0x6 0 (p0x0.up_.set v8.toNat (⟨v9.From,p2x0⟩ : Window)).length) J (by rw [List.length_set])<|ImpX.here<|ARun.ghost<|ImpX.eqBox (j := 6) (av' := .sl 2 b_0x6 0 (p0x0.up_.set v8.toNat (⟨v9.From,p2x0⟩ : Window)).length) .p1 J (by rw [List.length_set]) J<|ImpX.here<|rN<|ATodo.stop<|ImpX.lq [1,1,0,0,0,0,0] ⟨p0x0.up_.set v8.toNat (⟨v9.From,p2x0⟩ : Window),h,J⟩ J J
          · exact have h := iteFb hc h; tK<|ATodo.stop<|ImpX.lq [0,0,0,0,0,0,0] ⟨p0x0.up_,h,J⟩ J J
        · rintro σ' ⟨l7, h, rfl⟩
          unfold alarm_life_turn_j4 at h
          refine tS<|tSR<|rM J J<|ARun.qv (q_eql J J) J<|rN<|ATodo.cut (fun σ'=>∃ (b10 : Bk) (l11 : List Window),alarm_life_turn_j5 p0x0 p1x0 p2x0 c1 c2 l7 l11 = some r ∧ σ' = ⟨92,[(0,.ptr b_0 0),(1,I p1x0),(2,I p2x0),(7,.bool c1),(8,.bool c2)],[(b_0,.cells [.str p0x0.name_.device_,.str p0x0.name_.rule_,I p0x0.state_,I p0x0.since_,.sl 1 b_0x4 0 p0x0.raises_.length,I p0x0.shelved_,.sl 2 b_0x6 0 l7.length,.sl 2 b10 0 l11.length,.sl 2 b_0x8 0 p0x0.aside_.length,.sl 1 b_0x9 0 p0x0.acks_.length,.sl 1 b_0x10 0 p0x0.waits_.length]),(b_0x4,aE0 p0x0.raises_),(b_0x6,aE5 l7),(b10,aE5 l11),(b_0x8,aE5 p0x0.aside_),(b_0x9,aE0 p0x0.acks_),(b_0x10,aE0 p0x0.waits_)]⟩) ?_ ?_
          · refine ATodo.cond_d J (fun hc=>?_) (fun hc=>?_)
            · exact have h := iteT hc h; tR<|rM J J<|rM J J<|ARun.qv (q_nilCheck_ptr J) J<|rF J J J<|rL J J .p0 J J<|rM J J<|ARun.qv (n_build J J J J J) J<|n_buildSliceL (xs := ([(⟨p2x0,(345686400000 : Int)⟩ : Window)]).map Window.av) J J J J J J<|bndE h fun l12 e5 h=>t_append (g := Window.av) J J J J J J J J (.list _) e5 (fun _=>.p3) J fun b13=>ARun.qv (q_nilCheck_ptr J) J<|rF J J J<|n_store_ptr J J J J .p0 J J<|rN<|ATodo.stop<|ImpX.lq [0,0,0,0,0,0,0] ⟨b13,l12,h,J⟩ J J
            · exact have h := iteF hc h; tK<|ATodo.stop<|ImpX.lq [0,0,0,0,0,0,0] ⟨b_0x7,l3,h,J⟩ J J
          · rintro σ' ⟨b10, l11, h, rfl⟩
            unfold alarm_life_turn_j5 at h
            refine tS<|tS<|ATodo.cut (fun σ'=>∃ (c14 : Bool),alarm_life_turn_j6 p0x0 p1x0 p2x0 l7 l11 c14 = some r ∧ σ' = ⟨92,[(0,.ptr b_0 0),(1,I p1x0),(2,I p2x0),(72,.bool c14)],[(b_0,.cells [.str p0x0.name_.device_,.str p0x0.name_.rule_,I p0x0.state_,I p0x0.since_,.sl 1 b_0x4 0 p0x0.raises_.length,I p0x0.shelved_,.sl 2 b_0x6 0 l7.length,.sl 2 b10 0 l11.length,.sl 2 b_0x8 0 p0x0.aside_.length,.sl 1 b_0x9 0 p0x0.acks_.length,.sl 1 b_0x10 0 p0x0.waits_.length]),(b_0x4,aE0 p0x0.raises_),(b_0x6,aE5 l7),(b10,aE5 l11),(b_0x8,aE5 p0x0.aside_),(b_0x9,aE0 p0x0.acks_),(b_0x10,aE0 p0x0.waits_)]⟩) ?_ ?_
            · refine tR<|rM J J<|rM J J<|ARun.guard J J J (fun hc=>?_) (fun hc=>?_)
              · rw [andTb hc] at h
                exact rM J J<|rY J J J<|ARun.qv (q_not J) J<|rT J J J<|rN<|ATodo.stop<|ImpX.lq [0,0,0,0,0,0,0] ⟨!c1,h,J⟩ J J
              · rw [andFb hc] at h
                exact rG J J J J<|rE J J J<|rN<|ATodo.stop<|ImpX.lq [0,0,0,0,0,0,0] ⟨false,h,J⟩ J J
            · rintro σ' ⟨c14, h, rfl⟩
              unfold alarm_life_turn_j6 at h
              refine ATodo.cut (fun σ'=>∃ (b15 : Bk) (l16 : List Window),alarm_life_turn_j7 p0x0 p1x0 p2x0 l11 l16 = some r ∧ σ' = ⟨92,[(0,.ptr b_0 0),(1,I p1x0),(2,I p2x0)],[(b_0,.cells [.str p0x0.name_.device_,.str p0x0.name_.rule_,I p0x0.state_,I p0x0.since_,.sl 1 b_0x4 0 p0x0.raises_.length,I p0x0.shelved_,.sl 2 b15 0 l16.length,.sl 2 b10 0 l11.length,.sl 2 b_0x8 0 p0x0.aside_.length,.sl 1 b_0x9 0 p0x0.acks_.length,.sl 1 b_0x10 0 p0x0.waits_.length]),(b_0x4,aE0 p0x0.raises_),(b15,aE5 l16),(b10,aE5 l11),(b_0x8,aE5 p0x0.aside_),(b_0x9,aE0 p0x0.acks_),(b_0x10,aE0 p0x0.waits_)]⟩) ?_ ?_
              · refine ATodo.cond J (fun hc=>?_) (fun hc=>?_)
                · exact have h := iteT hc h; tR<|rM J J<|rM J J<|ARun.qv (q_nilCheck_ptr J) J<|rF J J J<|rL J J .p0 J J<|rM J J<|ARun.qv (n_build J J J J J) J<|n_buildSliceL (xs := ([(⟨p2x0,(345686400000 : Int)⟩ : Window)]).map Window.av) J J J J J J<|bndE h fun l17 e6 h=>t_append (g := Window.av) J J J J J J J J (.list _) e6 (fun _=>.p2) J fun b18=>ARun.qv (q_nilCheck_ptr J) J<|rF J J J<|n_store_ptr J J J J .p0 J J<|rN<|ATodo.stop<|ImpX.lq [0,0,0,0,0,0,0] ⟨b18,l17,h,J⟩ J J
                · exact have h := iteFb hc h; tK<|ATodo.stop<|ImpX.lq [0,0,0,0,0,0,0] ⟨b_0x6,l7,h,J⟩ J J
              · rintro σ' ⟨b15, l16, h, rfl⟩
                unfold alarm_life_turn_j7 at h
                refine tR<|rM J J<|rM J J<|rM J J<|rM J J<|ARun.qv (q_nilCheck_ptr J) J<|rF J J J<|n_store_ptr J J J J .p0 J J<|ARun.qv (q_nilCheck_ptr J) J<|rF J J J<|n_store_ptr J J J J .p0 J J<|rN<|ATodo.nil<|?_
                obtain rfl := Option.some.inj h
                exact ImpX.here ⟨_,.nil,_,.cons .p0 (.cons .p0 (.cons .p0 (.cons .p0 (.cons .p0 (.cons .p0 (.cons .p0 .nil)))))),⟨b_0x4,b15,b10,b_0x8,b_0x9,b_0x10,J,J⟩⟩

theorem alarm_life_lower_c [GI : GTab] {b_0 : Bk} {b_0x4 : Bk} {b_0x6 : Bk} {b_0x7 : Bk} {b_0x8 : Bk} {b_0x9 : Bk} {b_0x10 : Bk} {p0x0 : Alarm_life} {p1x0 : Signal} {r : Int × Alarm_life} (h : alarm_life_lower p0x0 p1x0 = some r) : ACall Tryz.prog 207 [.ptr b_0 0,Signal.av p1x0] [(b_0,.cells (cE2 p0x0 b_0x4 b_0x6 b_0x7 b_0x8 b_0x9 b_0x10)),(b_0x4,aE0 p0x0.raises_),(b_0x6,aE5 p0x0.up_),(b_0x7,aE5 p0x0.fresh_),(b_0x8,aE5 p0x0.aside_),(b_0x9,aE0 p0x0.acks_),(b_0x10,aE0 p0x0.waits_)] (T6 (fun c_0x4 c_0x6 c_0x7 c_0x8 c_0x9 c_0x10=>[(b_0,.cells (cE2 r.2 c_0x4 c_0x6 c_0x7 c_0x8 c_0x9 c_0x10)),(c_0x4,aE0 r.2.raises_),(c_0x6,aE5 r.2.up_),(c_0x7,aE5 r.2.fresh_),(c_0x8,aE5 r.2.aside_),(c_0x9,aE0 r.2.acks_),(c_0x10,aE0 r.2.waits_)]) (fun c_0x4 c_0x6 c_0x7 c_0x8 c_0x9 c_0x10=>I r.1)) := by
  unfold alarm_life_lower at h
  refine ACall.lessH ?_
  refine ACall.bodyN Tryz.func207 J Tryz.ntmps207 Tryz.results207 J J ?_
  refine tSR<|n_box J J J J fun b1=>rA J J<|rN<|tSR<|rF J J J<|rL J J .p0 J J<|ARun.qv (q_eql J J) J<|rA J J<|rN<|tS<|ATodo.block<|tS<|ATodo.cut (fun σ'=>∃ (c2 : Bool),alarm_life_lower_j1 p0x0 p1x0 c2 = some r ∧ σ' = ⟨95,[(0,.ptr b_0 0),(3,.ptr b1 0),(5,.bool (decide (p1x0.Kind = (2 : Int)))),(9,.bool c2)],[(b_0,.cells (cE2 p0x0 b_0x4 b_0x6 b_0x7 b_0x8 b_0x9 b_0x10)),(b_0x4,aE0 p0x0.raises_),(b_0x6,aE5 p0x0.up_),(b_0x7,aE5 p0x0.fresh_),(b_0x8,aE5 p0x0.aside_),(b_0x9,aE0 p0x0.acks_),(b_0x10,aE0 p0x0.waits_),(b1,.cells (cE0 p1x0))]⟩) ?_ ?_
  · refine tR<|rM J J<|rM J J<|ARun.guard_dt J J J (fun hc=>?_) (fun hc=>?_)
    · rw [andTd hc] at h
      exact rM J J<|rY J J J<|ARun.qv (q_nilCheck_ptr J) J<|rY J J J<|rF J J J<|rY J J J<|rL J J .p1 J J<|rY J J J<|ARun.qv (q_eql J J) J<|rT J J J<|rA J J<|rN<|ATodo.stop<|ImpX.lq [1,1,1,1,1,1,1,0] ⟨decide (p0x0.state_ = (1 : Int)),h,J⟩ J J
    · rw [andFd hc] at h
      exact rG J J J J<|rG J J J J<|rG J J J J<|rG J J J J<|rE J J J<|rA J J<|rN<|ATodo.stop<|ImpX.lq [1,1,1,1,1,1,1,0] ⟨false,h,J⟩ J J
  · rintro σ' ⟨c2, h, rfl⟩
    unfold alarm_life_lower_j1 at h
    refine ATodo.cut (fun σ'=>∃ (b7 : Bk) (b10 : Bk) (b12 : Bk) (b14 : Bk) (b16 : Bk) (b18 : Bk) (q3 : Str) (q4 : Str) (n5 : Int) (n6 : Int) (l8 : List Int) (n9 : Int) (l11 : List Window) (l13 : List Window) (l15 : List Window) (l17 : List Int) (l19 : List Int),alarm_life_lower_j2 p1x0 q3 q4 n5 n6 l8 n9 l11 l13 l15 l17 l19 = some r ∧ σ' = ⟨95,[(0,.ptr b_0 0),(3,.ptr b1 0),(5,.bool (decide (p1x0.Kind = (2 : Int))))],[(b_0,.cells [.str q3,.str q4,I n5,I n6,.sl 1 b7 0 l8.length,I n9,.sl 2 b10 0 l11.length,.sl 2 b12 0 l13.length,.sl 2 b14 0 l15.length,.sl 1 b16 0 l17.length,.sl 1 b18 0 l19.length]),(b7,aE0 l8),(b10,aE5 l11),(b12,aE5 l13),(b14,aE5 l15),(b16,aE0 l17),(b18,aE0 l19),(b1,.cells (cE0 p1x0))]⟩) ?_ ?_
    · refine ATodo.cond J (fun hc=>?_) (fun hc=>?_)
      · exact have h := iteT hc h; tR<|rM J J<|rF J J J<|rL J J .p7 J J<|bndE h fun v20 e1 h=>t_call6 J (alarm_life_turn_c e1) (CoL.refl _) (.cons .p0 (.cons .p0 (.cons .p0 (.cons .p0 (.cons .p0 (.cons .p0 (.cons .p0 .nil))))))) (fun _ _ _ _ _ _=>J) J fun b21 b22 b23 b24 b25 b26=>rN<|ATodo.stop<|ImpX.lq [0,0,0,0,0,0,0,0] ⟨b21,b22,b23,b24,b25,b26,v20.name_.device_,v20.name_.rule_,v20.state_,v20.since_,v20.raises_,v20.shelved_,v20.up_,v20.fresh_,v20.aside_,v20.acks_,v20.waits_,h,J⟩ J J
      · refine have h := iteFb hc h; tS<|tS<|ATodo.cut (fun σ'=>∃ (c27 : Bool),alarm_life_lower_j3 p0x0 p1x0 c27 = some r ∧ σ' = ⟨95,[(0,.ptr b_0 0),(3,.ptr b1 0),(5,.bool (decide (p1x0.Kind = (2 : Int)))),(22,.bool c27)],[(b_0,.cells (cE2 p0x0 b_0x4 b_0x6 b_0x7 b_0x8 b_0x9 b_0x10)),(b_0x4,aE0 p0x0.raises_),(b_0x6,aE5 p0x0.up_),(b_0x7,aE5 p0x0.fresh_),(b_0x8,aE5 p0x0.aside_),(b_0x9,aE0 p0x0.acks_),(b_0x10,aE0 p0x0.waits_),(b1,.cells (cE0 p1x0))]⟩) ?_ ?_
        · refine tR<|rM J J<|rM J J<|ARun.guard_dt J J J (fun hc=>?_) (fun hc=>?_)
          · rw [andTd hc] at h
            exact rM J J<|rY J J J<|ARun.qv (q_nilCheck_ptr J) J<|rY J J J<|rF J J J<|rY J J J<|rL J J .p0 J J<|rY J J J<|ARun.qv (q_eql J J) J<|rT J J J<|rA J J<|rN<|ATodo.stop<|ImpX.lq [0,0,0,0,0,0,0,0] ⟨decide (p0x0.state_ = (2 : Int)),h,J⟩ J J
          · rw [andFd hc] at h
            exact rG J J J J<|rG J J J J<|rG J J J J<|rG J J J J<|rE J J J<|rA J J<|rN<|ATodo.stop<|ImpX.lq [0,0,0,0,0,0,0,0] ⟨false,h,J⟩ J J
        · rintro σ' ⟨c27, h, rfl⟩
          unfold alarm_life_lower_j3 at h
          refine ATodo.cut (fun σ'=>∃ (c28 : Bool),alarm_life_lower_j4 p0x0 p1x0 c28 = some r ∧ σ' = ⟨95,[(0,.ptr b_0 0),(3,.ptr b1 0),(5,.bool (decide (p1x0.Kind = (2 : Int)))),(22,.bool c28)],[(b_0,.cells (cE2 p0x0 b_0x4 b_0x6 b_0x7 b_0x8 b_0x9 b_0x10)),(b_0x4,aE0 p0x0.raises_),(b_0x6,aE5 p0x0.up_),(b_0x7,aE5 p0x0.fresh_),(b_0x8,aE5 p0x0.aside_),(b_0x9,aE0 p0x0.acks_),(b_0x10,aE0 p0x0.waits_),(b1,.cells (cE0 p1x0))]⟩) ?_ ?_
          · refine ATodo.cond J (fun hc=>?_) (fun hc=>?_)
            · exact have h := iteT hc h; tK<|ATodo.stop<|ImpX.lq [0,0,0,0,0,0,0,0] ⟨c27,h,J⟩ J J
            · refine have h := iteFb hc h; ATodo.cut (fun σ'=>∃ (c29 : Bool),alarm_life_lower_j5 p0x0 p1x0 c29 = some r ∧ σ' = ⟨95,[(0,.ptr b_0 0),(3,.ptr b1 0),(5,.bool (decide (p1x0.Kind = (2 : Int)))),(22,.bool c29)],[(b_0,.cells (cE2 p0x0 b_0x4 b_0x6 b_0x7 b_0x8 b_0x9 b_0x10)),(b_0x4,aE0 p0x0.raises_),(b_0x6,aE5 p0x0.up_),(b_0x7,aE5 p0x0.fresh_),(b_0x8,aE5 p0x0.aside_),(b_0x9,aE0 p0x0.acks_),(b_0x10,aE0 p0x0.waits_),(b1,.cells (cE0 p1x0))]⟩) ?_ ?_
              · refine tR<|rM J J<|ARun.qv (q_not_d J) J<|rM J J<|ARun.guard_dt J J J (fun hc=>?_) (fun hc=>?_)
                · rw [andTd hc] at h
                  exact rM J J<|rY J J J<|ARun.qv (q_nilCheck_ptr J) J<|rY J J J<|rF J J J<|rY J J J<|rL J J .p0 J J<|rY J J J<|ARun.qv (q_eql J J) J<|rT J J J<|rA J J<|rN<|ATodo.stop<|ImpX.lq [0,0,0,0,0,0,0,0] ⟨decide (p0x0.state_ = (3 : Int)),h,J⟩ J J
                · rw [andFd hc] at h
                  exact rG J J J J<|rG J J J J<|rG J J J J<|rG J J J J<|rE J J J<|rA J J<|rN<|ATodo.stop<|ImpX.lq [0,0,0,0,0,0,0,0] ⟨false,h,J⟩ J J
              · rintro σ' ⟨c29, h, rfl⟩
                unfold alarm_life_lower_j5 at h
                exact ATodo.stop<|ImpX.lq [0,0,0,0,0,0,0,0] ⟨c29,h,J⟩ J J
          · rintro σ' ⟨c28, h, rfl⟩
            unfold alarm_life_lower_j4 at h
            refine ATodo.cut (fun σ'=>∃ (b34 : Bk) (b37 : Bk) (b39 : Bk) (b41 : Bk) (b43 : Bk) (b45 : Bk) (q30 : Str) (q31 : Str) (n32 : Int) (n33 : Int) (l35 : List Int) (n36 : Int) (l38 : List Window) (l40 : List Window) (l42 : List Window) (l44 : List Int) (l46 : List Int),alarm_life_lower_j6 p1x0 q30 q31 n32 n33 l35 n36 l38 l40 l42 l44 l46 = some r ∧ σ' = ⟨95,[(0,.ptr b_0 0),(3,.ptr b1 0),(5,.bool (decide (p1x0.Kind = (2 : Int))))],[(b_0,.cells [.str q30,.str q31,I n32,I n33,.sl 1 b34 0 l35.length,I n36,.sl 2 b37 0 l38.length,.sl 2 b39 0 l40.length,.sl 2 b41 0 l42.length,.sl 1 b43 0 l44.length,.sl 1 b45 0 l46.length]),(b34,aE0 l35),(b37,aE5 l38),(b39,aE5 l40),(b41,aE5 l42),(b43,aE0 l44),(b45,aE0 l46),(b1,.cells (cE0 p1x0))]⟩) ?_ ?_
            · refine ATodo.cond J (fun hc=>?_) (fun hc=>?_)
              · exact have h := iteT hc h; tR<|rM J J<|rF J J J<|rL J J .p7 J J<|bndE h fun v47 e2 h=>t_call6 J (alarm_life_turn_c e2) (CoL.refl _) (.cons .p0 (.cons .p0 (.cons .p0 (.cons .p0 (.cons .p0 (.cons .p0 (.cons .p0 .nil))))))) (fun _ _ _ _ _ _=>J) J fun b48 b49 b50 b51 b52 b53=>rN<|ATodo.stop<|ImpX.lq [0,0,0,0,0,0,0,0] ⟨b48,b49,b50,b51,b52,b53,v47.name_.device_,v47.name_.rule_,v47.state_,v47.since_,v47.raises_,v47.shelved_,v47.up_,v47.fresh_,v47.aside_,v47.acks_,v47.waits_,h,J⟩ J J
              · refine have h := iteFb hc h; tS<|ATodo.cut (fun σ'=>∃ (c54 : Bool),alarm_life_lower_j7 p0x0 p1x0 c54 = some r ∧ σ' = ⟨95,[(0,.ptr b_0 0),(3,.ptr b1 0),(5,.bool (decide (p1x0.Kind = (2 : Int)))),(44,.bool c54)],[(b_0,.cells (cE2 p0x0 b_0x4 b_0x6 b_0x7 b_0x8 b_0x9 b_0x10)),(b_0x4,aE0 p0x0.raises_),(b_0x6,aE5 p0x0.up_),(b_0x7,aE5 p0x0.fresh_),(b_0x8,aE5 p0x0.aside_),(b_0x9,aE0 p0x0.acks_),(b_0x10,aE0 p0x0.waits_),(b1,.cells (cE0 p1x0))]⟩) ?_ ?_
                · refine tR<|rM J J<|ARun.qv (q_not_d J) J<|rM J J<|ARun.guard_dt J J J (fun hc=>?_) (fun hc=>?_)
                  · rw [andTd hc] at h
                    exact rM J J<|rY J J J<|ARun.qv (q_nilCheck_ptr J) J<|rY J J J<|rF J J J<|rY J J J<|rL J J .p0 J J<|rY J J J<|ARun.qv (q_eql J J) J<|rT J J J<|rA J J<|rN<|ATodo.stop<|ImpX.lq [0,0,0,0,0,0,0,0] ⟨decide (p0x0.state_ = (1 : Int)),h,J⟩ J J
                  · rw [andFd hc] at h
                    exact rG J J J J<|rG J J J J<|rG J J J J<|rG J J J J<|rE J J J<|rA J J<|rN<|ATodo.stop<|ImpX.lq [0,0,0,0,0,0,0,0] ⟨false,h,J⟩ J J
                · rintro σ' ⟨c54, h, rfl⟩
                  unfold alarm_life_lower_j7 at h
                  refine ATodo.cond J (fun hc=>?_) (fun hc=>?_)
                  · exact have h := iteT hc h; tR<|rM J J<|rF J J J<|rL J J .p7 J J<|bndE h fun v55 e3 h=>t_call6 J (alarm_life_turn_c e3) (CoL.refl _) (.cons .p0 (.cons .p0 (.cons .p0 (.cons .p0 (.cons .p0 (.cons .p0 (.cons .p0 .nil))))))) (fun _ _ _ _ _ _=>J) J fun b56 b57 b58 b59 b60 b61=>rN<|ATodo.stop<|ImpX.lq [0,0,0,0,0,0,0,0] ⟨b56,b57,b58,b59,b60,b61,v55.name_.device_,v55.name_.rule_,v55.state_,v55.since_,v55.raises_,v55.shelved_,v55.up_,v55.fresh_,v55.aside_,v55.acks_,v55.waits_,h,J⟩ J J
                  · refine have h := iteFb hc h; tSR<|rA J J<|rN<|ATodo.ret<|?_
                    obtain rfl := Option.some.inj h
                    exact ImpX.here ⟨_,.cons (.tmp _ _ J) .nil,_,.cons .p0 (.cons .p0 (.cons .p0 (.cons .p0 (.cons .p0 (.cons .p0 (.cons .p0 .nil)))))),⟨b_0x4,b_0x6,b_0x7,b_0x8,b_0x9,b_0x10,J,J⟩⟩
            · rintro σ' ⟨b34, b37, b39, b41, b43, b45, q30, q31, n32, n33, l35, n36, l38, l40, l42, l44, l46, h, rfl⟩
              unfold alarm_life_lower_j6 at h
              exact ATodo.stop<|ImpX.lq [0,0,0,0,0,0,0,0] ⟨b34,b37,b39,b41,b43,b45,q30,q31,n32,n33,l35,n36,l38,l40,l42,l44,l46,h,J⟩ J J
    · rintro σ' ⟨b7, b10, b12, b14, b16, b18, q3, q4, n5, n6, l8, n9, l11, l13, l15, l17, l19, h, rfl⟩
      unfold alarm_life_lower_j2 at h
      refine ATodo.blk<|tS<|tSR<|rM J J<|ARun.qv (q_not_d J) J<|rN<|ATodo.cut (fun σ'=>∃ (b62 : Bk) (b64 : Bk) (l63 : List Int) (l65 : List Int),alarm_life_lower_j8 q3 q4 n5 n6 l8 n9 l11 l13 l15 l63 l65 = some r ∧ σ' = ⟨95,[],[(b_0,.cells [.str q3,.str q4,I n5,I n6,.sl 1 b7 0 l8.length,I n9,.sl 2 b10 0 l11.length,.sl 2 b12 0 l13.length,.sl 2 b14 0 l15.length,.sl 1 b62 0 l63.length,.sl 1 b64 0 l65.length]),(b7,aE0 l8),(b10,aE5 l11),(b12,aE5 l13),(b14,aE5 l15),(b62,aE0 l63),(b64,aE0 l65)]⟩) ?_ ?_
      · refine ATodo.cond_d J (fun hc=>?_) (fun hc=>?_)
        · refine have h := iteT hc h; tS<|bndE h fun l66 e4 h=>ATodo.regionT (id := 11) (A := [0,0,2,6,14,0,32,96,254,511,1023,2047]) (H0 := [(b16,aE0 l17)]) (HH := fun β=>[((β 8),aE0 l66),(b_0,.cells [.str q3,.str q4,I n5,I n6,.sl 1 b7 0 l8.length,I n9,.sl 2 b10 0 l11.length,.sl 2 b12 0 l13.length,.sl 2 b14 0 l15.length,.sl 1 b16 0 l17.length,.sl 1 b18 0 l19.length]),(b7,aE0 l8),(b10,aE5 l11),(b12,aE5 l13),(b14,aE5 l15),(b18,aE0 l19),(b1,.cells (cE0 p1x0))]) 9 mixed J (by kernel_rfl) (by kernel_rfl) [⟨none,some 8,[],fun _=>(b16,aE0 l17),none,[]⟩,⟨some 8,none,[],fun b=>(b,aE0 l66),none,[]⟩] [8] J (by kernel_rfl) J (.cons .p5 .nil) (fun _=>J)<|AT.am 8 J J<|AM.qv (q_move J) J<|AM.qv (q_move J) J<|AM.qv (q_nilCheck_ptr J) J<|AM.qv (n_field_ptr J J) J<|AM.qv (q_load_ptr J J .p0 J) J<|AM.qv (n_field_ptr J J) J<|AM.qv (q_load_ptr J J .p6 J) J<|AM.buildSliceL (xs := ([p1x0.At] : List Int).map I) J J J J J J<|AM.nil<|AT.runD (V := fun b=>.sl 1 b 0 l66.length) (Ti := [(b16,aE0 l17)]) (Pi := fun b=>[(b,aE0 l66)]) (fun _=>J) (fun _=>J) (fun _ _=>J) J (fun _=>J) J J J ?_ ?_
          · exact t_append (g := I) J J J J J J J J (.list _) e4 (fun _=>.p0) J fun b67=>ARun.nil ⟨b67,_,J,J⟩
          refine AT.nilN (fun _=>J) fun β=>?_
          generalize β 8 = b67
          clear β
          refine ARun.qv (q_nilCheck_ptr J) J<|rF J J J<|n_store_ptr J J J J .p1 J J<|rN<|bndE h fun v68 e5 h=>bndE h fun l69 e6 h=>ATodo.regionT (id := 12) (A := [0,0,2,6,14,0,32,0,128,384,896,0,2048,6144,14336,30720,63488,130944,262016,524256,1048544,2097150,4194303,8388607,16777215]) (H0 := [(b18,aE0 l19)]) (HH := fun β=>[((β 21),aE0 l69),(b67,aE0 l66),(b_0,.cells [.str q3,.str q4,I n5,I n6,.sl 1 b7 0 l8.length,I n9,.sl 2 b10 0 l11.length,.sl 2 b12 0 l13.length,.sl 2 b14 0 l15.length,.sl 1 b67 0 l66.length,.sl 1 b18 0 l19.length]),(b7,aE0 l8),(b10,aE5 l11),(b12,aE5 l13),(b14,aE5 l15),(b1,.cells (cE0 p1x0))]) 22 mixed J (by kernel_rfl) (by kernel_rfl) [⟨none,some 21,[],fun _=>(b18,aE0 l19),none,[]⟩,⟨some 21,none,[],fun b=>(b,aE0 l69),none,[]⟩] [21] J (by kernel_rfl) J (.cons .p6 .nil) (fun _=>J)<|AT.am 21 J J<|AM.qv (q_move J) J<|AM.qv (q_move J) J<|AM.qv (q_nilCheck_ptr J) J<|AM.qv (n_field_ptr J J) J<|AM.qv (q_load_ptr J J .p1 J) J<|AM.qv (n_field_ptr J J) J<|AM.qv (q_load_ptr J J .p6 J) J<|AM.qv (q_move J) J<|AM.qv (q_nilCheck_ptr J) J<|AM.qv (n_field_ptr J J) J<|AM.qv (q_load_ptr J J .p1 J) J<|AM.qv (q_move J) J<|AM.qv (q_nilCheck_ptr J) J<|AM.qv (n_field_ptr J J) J<|AM.qv (q_load_ptr J J .p1 J) J<|AM.qv (t_len_sl J) J<|AM.qv (q_subw J J) J<|AM.qv (t_index_sl J J J e5) J<|AM.qv (t_load_aptr (g := I) J J (.inl .p2) e5 J) J<|AM.qv (q_subw J J) J<|AM.buildSliceL (xs := ([w64 (p1x0.At - v68)] : List Int).map I) J J J J J J<|AM.nil<|AT.runD (V := fun b=>.sl 1 b 0 l69.length) (Ti := [(b18,aE0 l19)]) (Pi := fun b=>[(b,aE0 l69)]) (fun _=>J) (fun _=>J) (fun _ _=>J) J (fun _=>J) J J J ?_ ?_
          · exact t_append (g := I) J J J J J J J J (.list _) e6 (fun _=>.p0) J fun b70=>ARun.nil ⟨b70,_,J,J⟩
          refine AT.nilN (fun _=>J) fun β=>?_
          generalize β 21 = b70
          clear β
          exact ARun.qv (q_nilCheck_ptr J) J<|rF J J J<|n_store_ptr J J J J .p2 J J<|rN<|ATodo.stop<|ImpX.lq [2,2,2,2,2,1,0] ⟨b67,b70,l66,l69,h,J⟩ J J
        · exact have h := iteF hc h; tK<|ATodo.stop<|ImpX.lq [0,0,0,0,0,0,0] ⟨b16,b18,l17,l19,h,J⟩ J J
      · rintro σ' ⟨b62, b64, l63, l65, h, rfl⟩
        unfold alarm_life_lower_j8 at h
        refine tSR<|rA J J<|rN<|ATodo.ret<|?_
        obtain rfl := Option.some.inj h
        exact ImpX.here ⟨_,.cons (.tmp _ _ J) .nil,_,.cons .p0 (.cons .p0 (.cons .p0 (.cons .p0 (.cons .p0 (.cons .p0 (.cons .p0 .nil)))))),⟨b7,b10,b12,b14,b62,b64,J,J⟩⟩

theorem alarm_life_follow_c [GI : GTab] {b_0 : Bk} {b_0x4 : Bk} {b_0x6 : Bk} {b_0x7 : Bk} {b_0x8 : Bk} {b_0x9 : Bk} {b_0x10 : Bk} {p0x0 : Alarm_life} {p1x0 : Signal} {r : Int × Alarm_life} (h : alarm_life_follow p0x0 p1x0 = some r) : ACall Tryz.prog 153 [.ptr b_0 0,Signal.av p1x0] [(b_0,.cells (cE2 p0x0 b_0x4 b_0x6 b_0x7 b_0x8 b_0x9 b_0x10)),(b_0x4,aE0 p0x0.raises_),(b_0x6,aE5 p0x0.up_),(b_0x7,aE5 p0x0.fresh_),(b_0x8,aE5 p0x0.aside_),(b_0x9,aE0 p0x0.acks_),(b_0x10,aE0 p0x0.waits_)] (T6 (fun c_0x4 c_0x6 c_0x7 c_0x8 c_0x9 c_0x10=>[(b_0,.cells (cE2 r.2 c_0x4 c_0x6 c_0x7 c_0x8 c_0x9 c_0x10)),(c_0x4,aE0 r.2.raises_),(c_0x6,aE5 r.2.up_),(c_0x7,aE5 r.2.fresh_),(c_0x8,aE5 r.2.aside_),(c_0x9,aE0 r.2.acks_),(c_0x10,aE0 r.2.waits_)]) (fun c_0x4 c_0x6 c_0x7 c_0x8 c_0x9 c_0x10=>I r.1)) := by
  unfold alarm_life_follow at h
  refine ACall.lessH ?_
  refine ACall.bodyN Tryz.func153 J Tryz.ntmps153 Tryz.results153 J J ?_
  refine tSR<|n_box J J J J fun b1=>rA J J<|rN<|tS<|tSR<|rF J J J<|rL J J .p0 J J<|rN<|ATodo.block<|tSR<|ARun.qv (q_eql J J) J<|rA J J<|rN<|ATodo.cond_d J (fun hc=>?_) (fun hc=>?_)
  · refine have h := iteT hc h; tS<|tS<|ATodo.cut (fun σ'=>∃ (c2 : Bool),alarm_life_follow_j1 p0x0 p1x0 c2 = some r ∧ σ' = ⟨96,[(0,.ptr b_0 0),(3,.ptr b1 0),(20,.bool c2)],[(b_0,.cells (cE2 p0x0 b_0x4 b_0x6 b_0x7 b_0x8 b_0x9 b_0x10)),(b_0x4,aE0 p0x0.raises_),(b_0x6,aE5 p0x0.up_),(b_0x7,aE5 p0x0.fresh_),(b_0x8,aE5 p0x0.aside_),(b_0x9,aE0 p0x0.acks_),(b_0x10,aE0 p0x0.waits_),(b1,.cells (cE0 p1x0))]⟩) ?_ ?_
    · refine tR<|rM J J<|ARun.qv (q_nilCheck_ptr J) J<|rF J J J<|rL J J .p1 J J<|ARun.qv (q_eql J J) J<|rM J J<|ARun.guard_df J J J (fun hc=>?_) (fun hc=>?_)
      · rw [orFd hc] at h
        exact rM J J<|rY J J J<|ARun.qv (q_nilCheck_ptr J) J<|rY J J J<|rF J J J<|rY J J J<|rL J J .p1 J J<|rY J J J<|ARun.qv (q_eql J J) J<|rE J J J<|rN<|ATodo.stop<|ImpX.lq [1,1,1,1,1,1,1,0] ⟨decide (p0x0.state_ = (2 : Int)),h,J⟩ J J
      · rw [orTd hc] at h
        exact rG J J J J<|rG J J J J<|rG J J J J<|rG J J J J<|rT J J J<|rN<|ATodo.stop<|ImpX.lq [1,1,1,1,1,1,1,0] ⟨true,h,J⟩ J J
    · rintro σ' ⟨c2, h, rfl⟩
      unfold alarm_life_follow_j1 at h
      refine ATodo.cond J (fun hc=>?_) (fun hc=>?_)
      · refine have h := iteT hc h; tSR<|rA J J<|rN<|ATodo.ret<|?_
        obtain rfl := Option.some.inj h
        exact ImpX.here ⟨_,.cons (.tmp _ _ J) .nil,_,.cons .p0 (.cons .p0 (.cons .p0 (.cons .p0 (.cons .p0 (.cons .p0 (.cons .p0 .nil)))))),⟨b_0x4,b_0x6,b_0x7,b_0x8,b_0x9,b_0x10,J,J⟩⟩
      · refine have h := iteFb hc h; tK<|tSR<|rM J J<|rF J J J<|rL J J .p7 J J<|bndE h fun v3 e1 h=>t_call6 J (alarm_life_turn_c e1) (CoL.refl _) (.cons .p0 (.cons .p0 (.cons .p0 (.cons .p0 (.cons .p0 (.cons .p0 (.cons .p0 .nil))))))) (fun _ _ _ _ _ _=>J) J fun b4 b5 b6 b7 b8 b9=>rN<|tS<|bndE h fun l10 e2 h=>ATodo.regionT (id := 6) (A := [0,0,2,6,14,0,32,96,254,511,1023,2047]) (H0 := [(b4,aE0 v3.raises_)]) (HH := fun β=>[((β 8),aE0 l10),(b_0,.cells (cE2 v3 b4 b5 b6 b7 b8 b9)),(b5,aE5 v3.up_),(b6,aE5 v3.fresh_),(b7,aE5 v3.aside_),(b8,aE0 v3.acks_),(b9,aE0 v3.waits_),(b1,.cells (cE0 p1x0))]) 9 mixed J (by kernel_rfl) (by kernel_rfl) [⟨none,some 8,[],fun _=>(b4,aE0 v3.raises_),none,[]⟩,⟨some 8,none,[],fun b=>(b,aE0 l10),none,[]⟩] [8] J (by kernel_rfl) J (.cons .p1 .nil) (fun _=>J)<|AT.am 8 J J<|AM.qv (q_move J) J<|AM.qv (q_move J) J<|AM.qv (q_nilCheck_ptr J) J<|AM.qv (n_field_ptr J J) J<|AM.qv (q_load_ptr J J .p0 J) J<|AM.qv (n_field_ptr J J) J<|AM.qv (q_load_ptr J J .p6 J) J<|AM.buildSliceL (xs := ([p1x0.At] : List Int).map I) J J J J J J<|AM.nil<|AT.runD (V := fun b=>.sl 1 b 0 l10.length) (Ti := [(b4,aE0 v3.raises_)]) (Pi := fun b=>[(b,aE0 l10)]) (fun _=>J) (fun _=>J) (fun _ _=>J) J (fun _=>J) J J J ?_ ?_
        · exact t_append (g := I) J J J J J J J J (.list _) e2 (fun _=>.p0) J fun b11=>ARun.nil ⟨b11,_,J,J⟩
        refine AT.nilN (fun _=>J) fun β=>?_
        generalize β 8 = b11
        clear β
        refine ARun.qv (q_nilCheck_ptr J) J<|rF J J J<|n_store_ptr J J J J .p1 J J<|rN<|tSR<|rA J J<|rN<|ATodo.ret<|?_
        obtain rfl := Option.some.inj h
        exact ImpX.here ⟨_,.cons (.tmp _ _ J) .nil,_,.cons .p1 (.cons .p0 (.cons .p0 (.cons .p0 (.cons .p0 (.cons .p0 (.cons .p0 .nil)))))),⟨b11,b5,b6,b7,b8,b9,J,J⟩⟩
  · refine have h := iteF hc h; tS<|tSR<|ARun.qv (q_eql J J) J<|rA J J<|rN<|ATodo.cut (fun σ'=>∃ (c12 : Bool),alarm_life_follow_j2 p0x0 p1x0 c12 = some r ∧ σ' = ⟨96,[(0,.ptr b_0 0),(3,.ptr b1 0),(6,I p1x0.Kind),(36,.bool c12)],[(b_0,.cells (cE2 p0x0 b_0x4 b_0x6 b_0x7 b_0x8 b_0x9 b_0x10)),(b_0x4,aE0 p0x0.raises_),(b_0x6,aE5 p0x0.up_),(b_0x7,aE5 p0x0.fresh_),(b_0x8,aE5 p0x0.aside_),(b_0x9,aE0 p0x0.acks_),(b_0x10,aE0 p0x0.waits_),(b1,.cells (cE0 p1x0))]⟩) ?_ ?_
    · refine ATodo.cond_d J (fun hc=>?_) (fun hc=>?_)
      · exact have h := iteT hc h; tK<|ATodo.stop<|ImpX.lq [1,1,1,1,1,1,1,0] ⟨decide (p1x0.Kind = (2 : Int)),h,J⟩ J J
      · exact have h := iteF hc h; tR<|ARun.qv (q_eql J J) J<|rA J J<|rN<|ATodo.stop<|ImpX.lq [1,1,1,1,1,1,1,0] ⟨decide (p1x0.Kind = (3 : Int)),h,J⟩ J J
    · rintro σ' ⟨c12, h, rfl⟩
      unfold alarm_life_follow_j2 at h
      refine ATodo.cond J (fun hc=>?_) (fun hc=>?_)
      · refine have h := iteT hc h; tSR<|rM J J<|ARun.qv (q_load_ptr_all J J .p7 J) J<|bndE h fun v13 e3 h=>t_call6 J (alarm_life_lower_c e3) (CoL.refl _) (.cons .p0 (.cons .p0 (.cons .p0 (.cons .p0 (.cons .p0 (.cons .p0 (.cons .p0 .nil))))))) (fun _ _ _ _ _ _=>J) J fun b14 b15 b16 b17 b18 b19=>rA J J<|rN<|ATodo.ret<|?_
        obtain rfl := Option.some.inj h
        exact ImpX.here ⟨_,.cons (.tmp _ _ J) .nil,_,.cons .p0 (.cons .p0 (.cons .p0 (.cons .p0 (.cons .p0 (.cons .p0 (.cons .p0 .nil)))))),⟨b14,b15,b16,b17,b18,b19,J,J⟩⟩
      · refine have h := iteFb hc h; tSR<|ARun.qv (q_eql J J) J<|rA J J<|rN<|ATodo.cond_d J (fun hc=>?_) (fun hc=>?_)
        · refine have h := iteT hc h; tS<|tS<|ATodo.regionM (id := 12) (A := [0,1,3,7,0,16,63]) 7 mixed J (by kernel_rfl) (by kernel_rfl)<|AM.qv (q_move J) J<|AM.qv (q_nilCheck_ptr J) J<|AM.qv (n_field_ptr J J) J<|AM.qv (q_load_ptr J J .p0 J) J<|AM.qv (n_field_ptr J J) J<|AM.qv (q_load_ptr J J .p7 J) J<|AM.qv (q_gtr J J) J<|AM.nil<|rN<|ATodo.cond_d J (fun hc=>?_) (fun hc=>?_)
          · refine have h := iteT hc h; tSR<|rA J J<|rN<|ATodo.ret<|?_
            obtain rfl := Option.some.inj h
            exact ImpX.here ⟨_,.cons (.tmp _ _ J) .nil,_,.cons .p0 (.cons .p0 (.cons .p0 (.cons .p0 (.cons .p0 (.cons .p0 (.cons .p0 .nil)))))),⟨b_0x4,b_0x6,b_0x7,b_0x8,b_0x9,b_0x10,J,J⟩⟩
          · refine have h := iteF hc h; tK<|tSR<|rM J J<|rF J J J<|rL J J .p7 J J<|ARun.qv (q_nilCheck_ptr J) J<|rF J J J<|n_store_ptr J J J J .p0 J J<|rN<|tS<|bndE h fun l20 e4 h=>ATodo.regionT (id := 15) (A := [0,0,2,6,14,0,32,0,128,480,992,2046,4095,8191,16383]) (H0 := [(b_0x8,aE5 p0x0.aside_)]) (HH := fun β=>[((β 11),aE5 l20),(b_0,.cells [.str p0x0.name_.device_,.str p0x0.name_.rule_,I p0x0.state_,I p0x0.since_,.sl 1 b_0x4 0 p0x0.raises_.length,I p1x0.Until,.sl 2 b_0x6 0 p0x0.up_.length,.sl 2 b_0x7 0 p0x0.fresh_.length,.sl 2 b_0x8 0 p0x0.aside_.length,.sl 1 b_0x9 0 p0x0.acks_.length,.sl 1 b_0x10 0 p0x0.waits_.length]),(b_0x4,aE0 p0x0.raises_),(b_0x6,aE5 p0x0.up_),(b_0x7,aE5 p0x0.fresh_),(b_0x9,aE0 p0x0.acks_),(b_0x10,aE0 p0x0.waits_),(b1,.cells (cE0 p1x0))]) 12 mixed J (by kernel_rfl) (by kernel_rfl) [⟨none,some 11,[],fun _=>(b_0x8,aE5 p0x0.aside_),none,[]⟩,⟨some 11,none,[],fun b=>(b,aE5 l20),none,[]⟩] [11] J (by kernel_rfl) J (.cons .p4 .nil) (fun _=>J)<|AT.am 11 J J<|AM.qv (q_move J) J<|AM.qv (q_move J) J<|AM.qv (q_nilCheck_ptr J) J<|AM.qv (n_field_ptr J J) J<|AM.qv (q_load_ptr J J .p0 J) J<|AM.qv (n_field_ptr J J) J<|AM.qv (q_load_ptr J J .p6 J) J<|AM.qv (n_field_ptr J J) J<|AM.qv (q_load_ptr J J .p6 J) J<|AM.qv (n_build J J J J J) J<|AM.buildSliceL (xs := ([(⟨p1x0.At,p1x0.Until⟩ : Window)]).map Window.av) J J J J J J<|AM.nil<|AT.runD (V := fun b=>.sl 2 b 0 l20.length) (Ti := [(b_0x8,aE5 p0x0.aside_)]) (Pi := fun b=>[(b,aE5 l20)]) (fun _=>J) (fun _=>J) (fun _ _=>J) J (fun _=>J) J J J ?_ ?_
            · exact t_append (g := Window.av) J J J J J J J J (.list _) e4 (fun _=>.p0) J fun b21=>ARun.nil ⟨b21,_,J,J⟩
            refine AT.nilN (fun _=>J) fun β=>?_
            generalize β 11 = b21
            clear β
            refine ARun.qv (q_nilCheck_ptr J) J<|rF J J J<|n_store_ptr J J J J .p1 J J<|rN<|tSR<|rA J J<|rN<|ATodo.ret<|?_
            obtain rfl := Option.some.inj h
            exact ImpX.here ⟨_,.cons (.tmp _ _ J) .nil,_,.cons .p1 (.cons .p1 (.cons .p1 (.cons .p1 (.cons .p0 (.cons .p0 (.cons .p0 .nil)))))),⟨b_0x4,b_0x6,b_0x7,b21,b_0x9,b_0x10,J,J⟩⟩
        · refine have h := iteF hc h; tK<|ATodo.blk<|tS<|tS<|ATodo.regionM (id := 17) (A := [0,1,3,7,0,16,63]) 7 mixed J (by kernel_rfl) (by kernel_rfl)<|AM.qv (q_move J) J<|AM.qv (q_nilCheck_ptr J) J<|AM.qv (n_field_ptr J J) J<|AM.qv (q_load_ptr J J .p0 J) J<|AM.qv (n_field_ptr J J) J<|AM.qv (q_load_ptr J J .p7 J) J<|AM.qv (q_leq J J) J<|AM.nil<|rN<|ATodo.cond_d J (fun hc=>?_) (fun hc=>?_)
          · refine have h := iteT hc h; tSR<|rA J J<|rN<|ATodo.ret<|?_
            obtain rfl := Option.some.inj h
            exact ImpX.here ⟨_,.cons (.tmp _ _ J) .nil,_,.cons .p0 (.cons .p0 (.cons .p0 (.cons .p0 (.cons .p0 (.cons .p0 (.cons .p0 .nil)))))),⟨b_0x4,b_0x6,b_0x7,b_0x8,b_0x9,b_0x10,J,J⟩⟩
          · refine have h := iteF hc h; tK<|tSR<|rM J J<|rF J J J<|rL J J .p7 J J<|ARun.qv (q_nilCheck_ptr J) J<|rF J J J<|n_store_ptr J J J J .p0 J J<|rN<|tS<|ATodo.regionM (id := 20) (A := [0,1,3,7,0,16,48,112,240,496,0,1024,4095,8191,16383]) 14 mixed J (by kernel_rfl) (by kernel_rfl)<|AM.qv (q_move J) J<|AM.qv (q_nilCheck_ptr J) J<|AM.qv (n_field_ptr J J) J<|AM.qv (q_load_ptr J J .p0 J) J<|AM.qv (q_move J) J<|AM.qv (q_nilCheck_ptr J) J<|AM.qv (n_field_ptr J J) J<|AM.qv (q_load_ptr J J .p0 J) J<|AM.qv (t_len_sl J) J<|AM.qv (q_subw J J) J<|AM.qv (n_field_ptr J J) J<|AM.qv (q_load_ptr J J .p7 J) J<|bndE h fun v22 e5 h=>AM.qv (t_index_sl J J J e5) J<|AM.qv (t_field_aptr J J) J<|AM.nil<|t_store_aptr1 (g := Window.av) (el' := (⟨v22.From,p1x0.At⟩ : Window)) J J J J e5 J .p4 J<|ARun.ghost<|ImpX.eqs (s := 85) (av' := .sl 2 b_0x8 0 (p0x0.aside_.set (w64 ((p0x0.aside_.length : Int) - (1 : Int))).toNat (⟨v22.From,p1x0.At⟩ : Window)).length) J (by rw [List.length_set])<|ImpX.here<|ARun.ghost<|ImpX.eqs (s := 89) (av' := .sl 2 b_0x8 0 (p0x0.aside_.set (w64 ((p0x0.aside_.length : Int) - (1 : Int))).toNat (⟨v22.From,p1x0.At⟩ : Window)).length) J (by rw [List.length_set])<|ImpX.here<|ARun.ghost<|ImpX.eqBox (j := 8) (av' := .sl 2 b_0x8 0 (p0x0.aside_.set (w64 ((p0x0.aside_.length : Int) - (1 : Int))).toNat (⟨v22.From,p1x0.At⟩ : Window)).length) .p0 J (by rw [List.length_set]) J<|ImpX.here<|rN<|tSR<|rA J J<|rN<|ATodo.ret<|?_
            obtain rfl := Option.some.inj h
            exact ImpX.here ⟨_,.cons (.tmp _ _ J) .nil,_,.cons .p0 (.cons .p0 (.cons .p0 (.cons .p0 (.cons .p0 (.cons .p0 (.cons .p0 .nil)))))),⟨b_0x4,b_0x6,b_0x7,b_0x8,b_0x9,b_0x10,J,J⟩⟩

theorem alarm_house_follow_c0x1x_c [GI : GTab] {b_0 : Bk} {b_0x2 : Bk} {b_0x2o : Nat → Bk} {b_0x2s : Nat → Nat → Bk} {b_0x0 : Bk} {b_0x1 : Bk} {p0x0 : Alarm_house} {p1x0 : Signal} {r : Int × Alarm_house} (h : alarm_house_follow_c0x1x p0x0 p1x0 = some r) : ACall Tryz.prog 92 [.ptr b_0 0,Signal.av p1x0] [(b_0,.cells [.mref b_0x0,.sl 1 b_0x1 0 p0x0.order_.length]),(b_0x0,.mp (p0x0.all_.map (fun e=>(Alarm_name.av e.1,(pA b_0x2o) e.2)))),(b_0x1,.arr 1 (p0x0.order_.map (pA b_0x2o))),(b_0x2,.pool (araE kE0 b_0x2o b_0x2s p0x0.ar0))] (T2 (fun c_0x1 c_0x2s=>[(b_0,.cells [.mref b_0x0,.sl 1 c_0x1 0 r.2.order_.length]),(b_0x0,.mp (r.2.all_.map (fun e=>(Alarm_name.av e.1,(pA b_0x2o) e.2)))),(c_0x1,.arr 1 (r.2.order_.map (pA b_0x2o))),(b_0x2,.pool (araE kE0 b_0x2o c_0x2s r.2.ar0))]) (fun c_0x1 c_0x2s=>I r.1)) := by
  unfold alarm_house_follow_c0x1x at h
  refine ACall.lessH ?_
  refine ACall.bodyN Tryz.func92 J Tryz.ntmps92 Tryz.results92 J J ?_
  refine tSR<|n_box J J J J fun b1=>rA J J<|rN<|tS<|ATodo.regionM (id := 1) (A := [0,1,3,7,0,16,0,64,240,511,0,2047,4095]) 11 mixed J (by kernel_rfl) (by kernel_rfl)<|AM.qv (q_move J) J<|AM.qv (q_nilCheck_ptr J) J<|AM.qv (n_field_ptr J J) J<|AM.qv (q_load_ptr J J .p1 J) J<|AM.qv (n_field_ptr J J) J<|AM.qv (q_load_ptr J J .p0 J) J<|AM.qv (n_field_ptr J J) J<|AM.qv (q_load_ptr J J .p0 J) J<|AM.qv (n_build J J J J J) J<|optE h (fun e1 h=>?_) (fun n2 e1 h=>?_)
  · refine AM.qv (t_lookupA0 (gk := Alarm_name.av) (gv := (pA b_0x2o)) (M := p0x0.all_) (key := (⟨p1x0.Device,p1x0.Rule⟩ : Alarm_name)) J J .p2 J e1) J<|AM.qv (q_load_ptr_all J J .p0 J) J<|AM.nil<|?_
    cases h
  · refine AM.qv (t_lookupA1 (gk := Alarm_name.av) (gv := (pA b_0x2o)) (M := p0x0.all_) (key := (⟨p1x0.Device,p1x0.Rule⟩ : Alarm_name)) J J .p2 e1) J<|AM.qv (q_load_ptr_all J J .p0 J) J<|AM.nil<|bndE h fun v3 e2 h=>ARun.ghost<|ImpX.araTakeN (kb := kE0) e2 .p4 J<|ImpX.here<|bndE h fun v4 e3 h=>t_call6 J (alarm_life_follow_c e3) (CoL.refl _) (.cons .p0 (.cons .p0 (.cons .p0 (.cons .p0 (.cons .p0 (.cons .p0 (.cons .p0 .nil))))))) (fun _ _ _ _ _ _=>J) J fun b5 b6 b7 b8 b9 b10=>rA J J<|ARun.ghost<|ImpX.araPutN (kb := kE0) (v' := v4.2) (s := nbk [b5,b6,b7,b8,b9,b10]) e2 (.cons .p0 (.cons .p0 (.cons .p0 (.cons .p0 (.cons .p0 (.cons .p0 (.cons .p0 .nil))))))) J (fun _=>.p4) fun bs11=>ImpX.here<|rN<|ATodo.ret<|?_
    obtain rfl := Option.some.inj h
    exact ImpX.here ⟨_,.cons (.tmp _ _ J) .nil,_,.cons .p1 (.cons .p1 (.cons .p1 (.cons .p1 .nil))),⟨b_0x1,bs11,J,J⟩⟩

theorem alarm_RefusedOf_c [GI : GTab] {p0x0 : List Signal} {r : (List Refused) × Int} (h : alarm_RefusedOf p0x0 = some r) : ACall Tryz.prog 23 [lE2 p0x0] [] (T1 (fun d_0=>[(d_0,aE6 r.1)]) (fun d_0=>.tup [.sl 2 d_0 0 r.1.length,I r.2])) := by
  unfold alarm_RefusedOf at h
  refine ACall.lessH ?_
  refine ACall.bodyN Tryz.func23 J Tryz.ntmps23 Tryz.results23 J J ?_
  refine tSR<|rA J J<|rA J J<|rN<|tS<|tSR<|rM J J<|bndE h fun v1 e1 h=>r_callp J (alarm_CheckSignals_c e1) (CoL.refl _) J<|rA J J<|rN<|tSR<|rM J J<|ARun.qv (q_neq J J) J<|rN<|ATodo.cond_d J (fun hc=>?_) (fun hc=>?_)
  · refine have h := iteT hc h; tSR<|rM J J<|rA J J<|rA J J<|rN<|ATodo.ret<|?_
    obtain rfl := Option.some.inj h
    exact ImpX.arr (s := 2) 2 J fun b2=>ImpX.here ⟨_,.cons (.tmp _ _ J) (.cons (.tmp _ _ J) .nil),_,.cons .p0 .nil,⟨b2,J,J⟩⟩
  · refine have h := iteF hc h; tK<|tSR<|rM J J<|bndE h fun v3 e2 h=>t_call6 J (alarm_newHouse_c e2) (CoL.refl _) .nil (fun _ _ _ _ _ _=>J) J fun b4 b5 b6 b7 bo8 bs9=>rA J J<|rN<|tSR<|rA J J<|rN<|tS<|tSR<|rM J J<|ARun.qv (t_len J) J<|rM J J<|rN<|ATodo.block<|ATodo.loopI (fun x : (List (Alarm_name × Int)) × (List Alarm_life) × (List Int) × (List Refused) × Int=>alarm_RefusedOf_b1 p0x0 x.1 x.2.1 x.2.2.1 x.2.2.2.1 x.2.2.2.2) (fun x σ'=>∃ (bs20 : Nat → Nat → Bk) (b21 : Bk) (b23 : Bk),σ' = ⟨37,[(5,.ptr b4 0),(6,.sl 2 b23 0 x.2.2.2.1.length),(17,lE2 p0x0),(18,I (p0x0.length : Int)),(19,I x.2.2.2.2)],[(b4,.cells [.mref b5,.sl 1 b21 0 x.2.2.1.length]),(b5,.mp (x.1.map (fun e=>(Alarm_name.av e.1,(pA bo8) e.2)))),(b7,.pool (araE kE0 bo8 bs20 x.2.1)),(b21,.arr 1 (x.2.2.1.map (pA bo8))),(b23,aE6 x.2.2.2.1)]⟩) h ?_ ?_
    · exact ImpX.arr (s := 6) 2 J fun b26=>ImpX.lq [1,1,2,1,0] ⟨bs9,b6,b26,J⟩ J J
    · intro x z1 σ' J1 hmk h hJ1 hA1
      obtain ⟨l18, l19, l22, l24, n25⟩ := x
      obtain ⟨bs20, b21, b23, rfl⟩ := hmk
      replace h : alarm_RefusedOf_b1 p0x0 l18 l19 l22 l24 n25 = some z1 := h
      unfold alarm_RefusedOf_b1 at h
      refine tSR<|ARun.qv (q_lss J J) J<|rN<|tS<|ATodo.cond_d J (fun hc=>?_) (fun hc=>?_)
      · refine have h := iteT hc h; tK<|tS<|ATodo.block<|tSR<|rM J J<|bndE h fun v27 e3 h=>ARun.qv (t_index J J J e3 J J) J<|ARun.qv (q_load_rptr_agg J J J) J<|n_alloc J J J J fun b28=>rA J J<|n_store_ptr J J J J .p0 J J<|rN<|tSR<|rM J J<|ARun.qv (q_load_ptr_all J J .p0 J) J<|bndE h fun v29 e4 h=>t_call2 J (alarm_house_follow_c0x1x_c e4) (CoL.refl _) (.cons .p1 (.cons .p1 (.cons .p2 (.cons .p1 .nil)))) (fun _ _=>J) J fun b30 bs31=>rA J J<|rN<|tSR<|rM J J<|ARun.qv (q_neq J J) J<|rN<|ATodo.cut (fun σ'=>∃ (b32 : Bk) (l33 : List Refused),alarm_RefusedOf_j1 n25 v29 l33 = some z1 ∧ σ' = ⟨37,[(5,.ptr b4 0),(6,.sl 2 b32 0 l33.length),(17,lE2 p0x0),(18,I (p0x0.length : Int)),(19,I n25)],[(b4,.cells [.mref b5,.sl 1 b30 0 v29.2.order_.length]),(b5,.mp (v29.2.all_.map (fun e=>(Alarm_name.av e.1,(pA bo8) e.2)))),(b7,.pool (araE kE0 bo8 bs31 v29.2.ar0)),(b30,.arr 1 (v29.2.order_.map (pA bo8))),(b32,aE6 l33)]⟩) ?_ ?_
        · refine ATodo.cond_d J (fun hc=>?_) (fun hc=>?_)
          · exact have h := iteT hc h; tR<|rM J J<|rM J J<|rM J J<|ARun.qv (n_build J J J J J) J<|n_buildSliceL (xs := ([(⟨n25,v29.1⟩ : Refused)]).map Refused.av) J J J J J J<|bndE h fun l34 e5 h=>t_append (g := Refused.av) J J J J J J J J (.list _) e5 (fun _=>.p5) J fun b35=>rA J J<|rN<|ATodo.stop<|ImpX.lq [0,0,1,0,1] ⟨b35,l34,h,J⟩ J J
          · exact have h := iteF hc h; tK<|ATodo.stop<|ImpX.lq [0,0,1,0,1] ⟨b23,l24,h,J⟩ J J
        · rintro σ' ⟨b32, l33, h, rfl⟩
          unfold alarm_RefusedOf_j1 at h
          refine ATodo.blk<|tR<|ARun.qv (q_addw J J) J<|rM J J<|rN<|ATodo.stop<|?_
          obtain rfl := Option.some.inj h
          exact hJ1 _ _ J<|ImpX.lq [0,0,0,0,0] ⟨bs31,b30,b32,J⟩ J J
      · refine have h := iteF hc h; ATodo.exit J<|have h := outL h hA1; tSR<|rM J J<|rA J J<|rA J J<|rN<|ATodo.ret<|?_
        obtain rfl := Option.some.inj h
        exact ImpX.here ⟨_,.cons (.tmp _ _ J) (.cons (.tmp _ _ J) .nil),_,.cons .p4 .nil,⟨b23,J,J⟩⟩

theorem Q_tracksAt_1x_c [GI : GTab] {p0x0 : Fleetref1_track} {p1x0 : Signal} {r : Bool} (h : Q_tracksAt_1x p0x0 p1x0 = r) : Pu Tryz.prog 155 [.rptr [.str p0x0.device_,.str p0x0.rule_,lE2 p0x0.done_,I p0x0.state_,I p0x0.shelved_.From,I p0x0.shelved_.To],.rptr [I p1x0.At,I p1x0.Kind,.str p1x0.Device,.str p1x0.Rule,.str p1x0.By,I p1x0.Until]] (.bool r) := by
  unfold Q_tracksAt_1x at h
  refine ACall.bodyN Tryz.func155 J Tryz.ntmps155 Tryz.results155 J J ?_
  refine tSR<|rA J J<|rN<|tS<|ATodo.cut (fun σ'=>∃ (c1 : Bool),Q_tracksAt_1x_j1 c1 = r ∧ σ' = ⟨20,[(3,.bool c1)],[]⟩) ?_ ?_
  · refine ATodo.regionM (id := 1) (A := [0,1,3,7,0,16,63,127,255,511,1023,2047,255,4351,16383,32767,65535]) 17 mixed J (by kernel_rfl) (by kernel_rfl)<|AM.qv (q_move J) J<|AM.qv (q_nilCheck_rptr J) J<|AM.qv (n_field_rptr J J) J<|AM.qv (q_load_rptr J J J) J<|AM.qv (n_field_rptr J J) J<|AM.qv (q_load_rptr J J J) J<|AM.qv (q_seq J J) J<|AM.qv (q_move J) J<|AM.guard_dt J J J (fun hc=>?_) (fun hc=>?_)
    · rw [andTd hc] at h
      exact AM.qv (q_move J) J<|AM.guard_yes J J J<|AM.qv (q_nilCheck_rptr J) J<|AM.guard_yes J J J<|AM.qv (n_field_rptr J J) J<|AM.guard_yes J J J<|AM.qv (q_load_rptr J J J) J<|AM.guard_yes J J J<|AM.qv (n_field_rptr J J) J<|AM.guard_yes J J J<|AM.qv (q_load_rptr J J J) J<|AM.guard_yes J J J<|AM.qv (q_seq J J) J<|AM.qv (q_pick_t J J) J<|AM.qv (q_assign J) J<|AM.nil<|rN<|ATodo.stop<|ImpX.lq [] ⟨decide (p0x0.rule_ = p1x0.Rule),h,J⟩ J J
    · rw [andFd hc] at h
      exact AM.guard_no J J J J<|AM.guard_no J J J J<|AM.guard_no J J J J<|AM.guard_no J J J J<|AM.guard_no J J J J<|AM.guard_no J J J J<|AM.qv (q_pick_f J J) J<|AM.qv (q_assign J) J<|AM.nil<|rN<|ATodo.stop<|ImpX.lq [] ⟨false,h,J⟩ J J
  · rintro σ' ⟨c1, h, rfl⟩
    unfold Q_tracksAt_1x_j1 at h
    refine ATodo.ret<|?_
    obtain rfl := h
    exact ImpX.here ⟨_,.cons (.tmp _ _ J) .nil,J⟩

theorem slices_IndexFunc__Q_track_Q_track_c [GI : GTab] {p0x0 : List Fleetref1_track} {fnb : Fleetref1_track → Option Bool} {fnb_F : FuncId} [IsFn Tryz.prog fnb_F] {fnb_C : List AV} (fnb_h : ∀ {y0 : _} {u : Bool},fnb y0 = some u → Pu Tryz.prog fnb_F (.rptr [.str y0.device_,.str y0.rule_,lE2 y0.done_,I y0.state_,I y0.shelved_.From,I y0.shelved_.To] ::  fnb_C) (.bool u)) {r : Int} (h : slices_IndexFunc__Q_track_Q_track p0x0 fnb = some r) : Pu Tryz.prog 154 [lE7 p0x0,.func (.func fnb_F) fnb_C] (I r) := by
  unfold slices_IndexFunc__Q_track_Q_track at h
  refine ACall.bodyN Tryz.func154 J Tryz.ntmps154 Tryz.results154 J J ?_
  refine tSR<|rA J J<|rN<|tS<|tSR<|rM J J<|ARun.qv (t_len J) J<|rM J J<|rN<|ATodo.block<|ATodo.loopI (fun x : Int=>slices_IndexFunc__Q_track_Q_track_b1 p0x0 fnb x) (fun x σ'=>σ' = ⟨19,[(0,lE7 p0x0),(1,.func (.func fnb_F) fnb_C),(7,I (p0x0.length : Int)),(8,I x)],[]⟩) h ?_ ?_
  · exact ImpX.lq [] J J J
  · intro n2 z1 σ' J1 hmk h hJ1 hA1
    obtain rfl := hmk
    replace h : slices_IndexFunc__Q_track_Q_track_b1 p0x0 fnb n2 = some z1 := h
    unfold slices_IndexFunc__Q_track_Q_track_b1 at h
    refine tSR<|ARun.qv (q_lss J J) J<|rN<|tS<|ATodo.cond_d J (fun hc=>?_) (fun hc=>?_)
    · refine have h := iteT hc h; tK<|tS<|ATodo.block<|tSR<|rM J J<|rA J J<|rN<|tSR<|rM J J<|rM J J<|rM J J<|bndE h fun v3 e1 h=>ARun.qv (t_index J J J e1 J J) J<|ARun.qv (q_load_rptr J J J) J<|bndE h fun v4 e2 h=>r_callvp J J (fnb_h e2) (CoL.refl _) J<|rN<|ATodo.cond J (fun hc=>?_) (fun hc=>?_)
      · refine have h := iteT hc h; tSR<|rM J J<|rA J J<|rN<|ATodo.ret<|have h := outL h hA1; ?_
        obtain rfl := Option.some.inj h
        exact ImpX.here ⟨_,.cons (.tmp _ _ J) .nil,J⟩
      · refine have h := iteFb hc h; tK<|ATodo.blk<|tR<|ARun.qv (q_addw J J) J<|rM J J<|rN<|ATodo.stop<|?_
        obtain rfl := Option.some.inj h
        exact hJ1 _ _ J<|ImpX.lq [] J J J
    · refine have h := iteF hc h; ATodo.exit J<|have h := outL h hA1; tSR<|rA J J<|rN<|ATodo.ret<|?_
      obtain rfl := Option.some.inj h
      exact ImpX.here ⟨_,.cons (.tmp _ _ J) .nil,J⟩

theorem Q_track_step_c [GI : GTab] {b_0 : Bk} {b_0x2 : Bk} {p0x0 : Fleetref1_track} {p1x0 : Signal} {r : Int × Fleetref1_track} (h : Q_track_step p0x0 p1x0 = some r) : ACall Tryz.prog 156 [.ptr b_0 0,Signal.av p1x0] [(b_0,.cells [.str p0x0.device_,.str p0x0.rule_,.sl 6 b_0x2 0 p0x0.done_.length,I p0x0.state_,I p0x0.shelved_.From,I p0x0.shelved_.To]),(b_0x2,aE2 p0x0.done_)] (T1 (fun c_0x2=>[(b_0,.cells [.str r.2.device_,.str r.2.rule_,.sl 6 c_0x2 0 r.2.done_.length,I r.2.state_,I r.2.shelved_.From,I r.2.shelved_.To]),(c_0x2,aE2 r.2.done_)]) (fun c_0x2=>I r.1)) := by
  unfold Q_track_step at h
  refine ACall.lessH ?_
  refine ACall.bodyN Tryz.func156 J Tryz.ntmps156 Tryz.results156 J J ?_
  refine tSR<|n_box J J J J fun b1=>rA J J<|rN<|tS<|ATodo.cut (fun σ'=>∃ (c2 : Bool),Q_track_step_j1 p0x0 p1x0 c2 = some r ∧ σ' = ⟨110,[(0,.ptr b_0 0),(3,.ptr b1 0),(5,.bool c2)],[(b_0,.cells [.str p0x0.device_,.str p0x0.rule_,.sl 6 b_0x2 0 p0x0.done_.length,I p0x0.state_,I p0x0.shelved_.From,I p0x0.shelved_.To]),(b_0x2,aE2 p0x0.done_),(b1,.cells (cE0 p1x0))]⟩) ?_ ?_
  · refine tR<|rM J J<|ARun.qv (q_nilCheck_ptr J) J<|rF J J J<|rL J J .p1 J J<|ARun.qv (q_eql J J) J<|rM J J<|ARun.guard_df J J J (fun hc=>?_) (fun hc=>?_)
    · rw [orFd hc] at h
      exact rM J J<|rY J J J<|ARun.qv (q_nilCheck_ptr J) J<|rY J J J<|rF J J J<|rY J J J<|rL J J .p1 J J<|rY J J J<|ARun.qv (q_eql J J) J<|rE J J J<|rA J J<|rN<|ATodo.stop<|ImpX.lq [1,1,0] ⟨decide (p0x0.state_ = (2 : Int)),h,J⟩ J J
    · rw [orTd hc] at h
      exact rG J J J J<|rG J J J J<|rG J J J J<|rG J J J J<|rT J J J<|rA J J<|rN<|ATodo.stop<|ImpX.lq [1,1,0] ⟨true,h,J⟩ J J
  · rintro σ' ⟨c2, h, rfl⟩
    unfold Q_track_step_j1 at h
    refine tS<|ATodo.cut (fun σ'=>∃ (c3 : Bool),Q_track_step_j2 p0x0 p1x0 c2 c3 = some r ∧ σ' = ⟨110,[(0,.ptr b_0 0),(3,.ptr b1 0),(5,.bool c2),(6,.bool c3)],[(b_0,.cells [.str p0x0.device_,.str p0x0.rule_,.sl 6 b_0x2 0 p0x0.done_.length,I p0x0.state_,I p0x0.shelved_.From,I p0x0.shelved_.To]),(b_0x2,aE2 p0x0.done_),(b1,.cells (cE0 p1x0))]⟩) ?_ ?_
    · refine ATodo.regionM (id := 2) (A := [0,1,3,7,15,0,32,127,255,511,1023,511,2559,6655,14847,31231,65535,131071,262143]) 19 mixed J (by kernel_rfl) (by kernel_rfl)<|AM.qv (q_move J) J<|AM.qv (q_nilCheck_ptr J) J<|AM.qv (n_field_ptr J J) J<|AM.qv (n_field_ptr J J) J<|AM.qv (q_load_ptr J J .p0 J) J<|AM.qv (n_field_ptr J J) J<|AM.qv (q_load_ptr J J .p2 J) J<|AM.qv (q_leq J J) J<|AM.qv (q_move J) J<|AM.guard_dt J J J (fun hc=>?_) (fun hc=>?_)
      · rw [andTd hc] at h
        exact AM.qv (n_field_ptr J J) J<|AM.guard_yes J J J<|AM.qv (q_load_ptr J J .p2 J) J<|AM.guard_yes J J J<|AM.qv (q_move J) J<|AM.guard_yes J J J<|AM.qv (q_nilCheck_ptr J) J<|AM.guard_yes J J J<|AM.qv (n_field_ptr J J) J<|AM.guard_yes J J J<|AM.qv (n_field_ptr J J) J<|AM.guard_yes J J J<|AM.qv (q_load_ptr J J .p0 J) J<|AM.guard_yes J J J<|AM.qv (q_lss J J) J<|AM.qv (q_pick_t J J) J<|AM.qv (q_assign J) J<|AM.nil<|rN<|ATodo.stop<|ImpX.lq [0,0,0] ⟨decide (p1x0.At < p0x0.shelved_.To),h,J⟩ J J
      · rw [andFd hc] at h
        exact AM.guard_no J J J J<|AM.guard_no J J J J<|AM.guard_no J J J J<|AM.guard_no J J J J<|AM.guard_no J J J J<|AM.guard_no J J J J<|AM.guard_no J J J J<|AM.qv (q_pick_f J J) J<|AM.qv (q_assign J) J<|AM.nil<|rN<|ATodo.stop<|ImpX.lq [0,0,0] ⟨false,h,J⟩ J J
    · rintro σ' ⟨c3, h, rfl⟩
      unfold Q_track_step_j2 at h
      refine tS<|tSR<|rF J J J<|rL J J .p2 J J<|rN<|ATodo.block<|tSR<|ARun.qv (q_eql J J) J<|rA J J<|rN<|ATodo.cut (fun σ'=>∃ (n4 : Int) (n5 : Int) (n6 : Int),Q_track_step_j3 p0x0 p1x0 n4 n5 n6 = some r ∧ σ' = ⟨110,[(0,.ptr b_0 0),(3,.ptr b1 0)],[(b_0,.cells [.str p0x0.device_,.str p0x0.rule_,.sl 6 b_0x2 0 p0x0.done_.length,I n4,I n5,I n6]),(b_0x2,aE2 p0x0.done_),(b1,.cells (cE0 p1x0))]⟩) ?_ ?_
      · refine ATodo.cond_d J (fun hc=>?_) (fun hc=>?_)
        · refine have h := iteT hc h; tS<|tSR<|rM J J<|rN<|ATodo.cond J (fun hc=>?_) (fun hc=>?_)
          · refine have h := iteT hc h; tSR<|rA J J<|rN<|ATodo.ret<|?_
            obtain rfl := Option.some.inj h
            exact ImpX.here ⟨_,.cons (.tmp _ _ J) .nil,_,.cons .p0 (.cons .p0 .nil),⟨b_0x2,J,J⟩⟩
          · exact have h := iteFb hc h; tK<|tR<|rM J J<|ARun.qv (q_nilCheck_ptr J) J<|rF J J J<|n_store_ptr J J J J .p0 J J<|rN<|ATodo.stop<|ImpX.lq [0,0,0] ⟨(1 : Int),p0x0.shelved_.From,p0x0.shelved_.To,h,J⟩ J J
        · refine have h := iteF hc h; tSR<|ARun.qv (q_eql J J) J<|rA J J<|rN<|ATodo.cut (fun σ'=>∃ (n7 : Int) (n8 : Int) (n9 : Int),Q_track_step_j4 p0x0 p1x0 n7 n8 n9 = some r ∧ σ' = ⟨110,[(0,.ptr b_0 0),(3,.ptr b1 0)],[(b_0,.cells [.str p0x0.device_,.str p0x0.rule_,.sl 6 b_0x2 0 p0x0.done_.length,I n7,I n8,I n9]),(b_0x2,aE2 p0x0.done_),(b1,.cells (cE0 p1x0))]⟩) ?_ ?_
          · refine ATodo.cond_d J (fun hc=>?_) (fun hc=>?_)
            · refine have h := iteT hc h; tS<|tSR<|rM J J<|ARun.qv (q_not J) J<|rN<|ATodo.cond J (fun hc=>?_) (fun hc=>?_)
              · refine have h := iteT hc h; tSR<|rA J J<|rN<|ATodo.ret<|?_
                obtain rfl := Option.some.inj h
                exact ImpX.here ⟨_,.cons (.tmp _ _ J) .nil,_,.cons .p0 (.cons .p0 .nil),⟨b_0x2,J,J⟩⟩
              · exact have h := iteFb hc h; tK<|tR<|rM J J<|t_makeMap J fun b10=>t_insert (gk := I) (gv := I) (M := ([] : List (Int × Int))) (key := (1 : Int)) (v := (3 : Int)) J J J J .p0<|t_insert (gk := I) (gv := I) (M := (mset ([] : List (Int × Int)) (1 : Int) (3 : Int))) (key := (2 : Int)) (v := (0 : Int)) J J J J .p0<|rM J J<|rM J J<|ARun.qv (q_nilCheck_ptr J) J<|rF J J J<|rL J J .p1 J J<|bndE h fun v11 e1 h=>ARun.qv (t_lookup (gk := I) (gv := I) (M := (mset (mset ([] : List (Int × Int)) (1 : Int) (3 : Int)) (2 : Int) (0 : Int))) (key := p0x0.state_) (Z := (0 : Int)) J J .p0 J J J e1 J) J<|ARun.qv (q_nilCheck_ptr J) J<|rF J J J<|n_store_ptr J J J J .p1 J J<|rN<|ATodo.stop<|ImpX.lq [1,1,1] ⟨v11,p0x0.shelved_.From,p0x0.shelved_.To,h,J⟩ J J
            · refine have h := iteF hc h; tSR<|ARun.qv (q_eql J J) J<|rA J J<|rN<|ATodo.cut (fun σ'=>∃ (n12 : Int) (n13 : Int) (n14 : Int),Q_track_step_j5 p0x0 p1x0 n12 n13 n14 = some r ∧ σ' = ⟨110,[(0,.ptr b_0 0),(3,.ptr b1 0)],[(b_0,.cells [.str p0x0.device_,.str p0x0.rule_,.sl 6 b_0x2 0 p0x0.done_.length,I n12,I n13,I n14]),(b_0x2,aE2 p0x0.done_),(b1,.cells (cE0 p1x0))]⟩) ?_ ?_
              · refine ATodo.cond_d J (fun hc=>?_) (fun hc=>?_)
                · refine have h := iteT hc h; tS<|tS<|ATodo.cut (fun σ'=>∃ (c15 : Bool),Q_track_step_j6 p0x0 p1x0 c15 = some r ∧ σ' = ⟨110,[(0,.ptr b_0 0),(3,.ptr b1 0),(78,.bool c15)],[(b_0,.cells [.str p0x0.device_,.str p0x0.rule_,.sl 6 b_0x2 0 p0x0.done_.length,I p0x0.state_,I p0x0.shelved_.From,I p0x0.shelved_.To]),(b_0x2,aE2 p0x0.done_),(b1,.cells (cE0 p1x0))]⟩) ?_ ?_
                  · refine tR<|rM J J<|ARun.qv (q_nilCheck_ptr J) J<|rF J J J<|rL J J .p0 J J<|ARun.qv (q_neq J J) J<|rM J J<|ARun.guard_dt J J J (fun hc=>?_) (fun hc=>?_)
                    · rw [andTd hc] at h
                      exact rM J J<|rY J J J<|ARun.qv (q_nilCheck_ptr J) J<|rY J J J<|rF J J J<|rY J J J<|rL J J .p0 J J<|rY J J J<|ARun.qv (q_neq J J) J<|rT J J J<|rN<|ATodo.stop<|ImpX.lq [0,0,0] ⟨decide (p0x0.state_ ≠ (3 : Int)),h,J⟩ J J
                    · rw [andFd hc] at h
                      exact rG J J J J<|rG J J J J<|rG J J J J<|rG J J J J<|rE J J J<|rN<|ATodo.stop<|ImpX.lq [0,0,0] ⟨false,h,J⟩ J J
                  · rintro σ' ⟨c15, h, rfl⟩
                    unfold Q_track_step_j6 at h
                    refine ATodo.cond J (fun hc=>?_) (fun hc=>?_)
                    · refine have h := iteT hc h; tSR<|rA J J<|rN<|ATodo.ret<|?_
                      obtain rfl := Option.some.inj h
                      exact ImpX.here ⟨_,.cons (.tmp _ _ J) .nil,_,.cons .p0 (.cons .p0 .nil),⟨b_0x2,J,J⟩⟩
                    · exact have h := iteFb hc h; tK<|tR<|rM J J<|t_makeMap J fun b16=>t_insert (gk := I) (gv := I) (M := ([] : List (Int × Int))) (key := (1 : Int)) (v := (2 : Int)) J J J J .p0<|t_insert (gk := I) (gv := I) (M := (mset ([] : List (Int × Int)) (1 : Int) (2 : Int))) (key := (3 : Int)) (v := (0 : Int)) J J J J .p0<|rM J J<|rM J J<|ARun.qv (q_nilCheck_ptr J) J<|rF J J J<|rL J J .p1 J J<|bndE h fun v17 e2 h=>ARun.qv (t_lookup (gk := I) (gv := I) (M := (mset (mset ([] : List (Int × Int)) (1 : Int) (2 : Int)) (3 : Int) (0 : Int))) (key := p0x0.state_) (Z := (0 : Int)) J J .p0 J J J e2 J) J<|ARun.qv (q_nilCheck_ptr J) J<|rF J J J<|n_store_ptr J J J J .p1 J J<|rN<|ATodo.stop<|ImpX.lq [1,1,1] ⟨v17,p0x0.shelved_.From,p0x0.shelved_.To,h,J⟩ J J
                · refine have h := iteF hc h; tSR<|ARun.qv (q_eql J J) J<|rA J J<|rN<|ATodo.cut (fun σ'=>∃ (n18 : Int) (n19 : Int),Q_track_step_j7 p0x0 p1x0 n18 n19 = some r ∧ σ' = ⟨110,[(0,.ptr b_0 0),(3,.ptr b1 0)],[(b_0,.cells [.str p0x0.device_,.str p0x0.rule_,.sl 6 b_0x2 0 p0x0.done_.length,I p0x0.state_,I n18,I n19]),(b_0x2,aE2 p0x0.done_),(b1,.cells (cE0 p1x0))]⟩) ?_ ?_
                  · refine ATodo.cond_d J (fun hc=>?_) (fun hc=>?_)
                    · refine have h := iteT hc h; tS<|tSR<|rM J J<|rN<|ATodo.cond J (fun hc=>?_) (fun hc=>?_)
                      · refine have h := iteT hc h; tSR<|rA J J<|rN<|ATodo.ret<|?_
                        obtain rfl := Option.some.inj h
                        exact ImpX.here ⟨_,.cons (.tmp _ _ J) .nil,_,.cons .p0 (.cons .p0 .nil),⟨b_0x2,J,J⟩⟩
                      · exact have h := iteFb hc h; tK<|tR<|rM J J<|rF J J J<|rL J J .p2 J J<|rF J J J<|rL J J .p2 J J<|ARun.qv (n_build J J J J J) J<|ARun.qv (q_nilCheck_ptr J) J<|rF J J J<|n_store_ptr J J J J .p0 J J<|rN<|ATodo.stop<|ImpX.lq [0,0,0] ⟨p1x0.At,p1x0.Until,h,J⟩ J J
                    · refine have h := iteF hc h; tS<|tSR<|rM J J<|ARun.qv (q_not J) J<|rN<|ATodo.cond J (fun hc=>?_) (fun hc=>?_)
                      · refine have h := iteT hc h; tSR<|rA J J<|rN<|ATodo.ret<|?_
                        obtain rfl := Option.some.inj h
                        exact ImpX.here ⟨_,.cons (.tmp _ _ J) .nil,_,.cons .p0 (.cons .p0 .nil),⟨b_0x2,J,J⟩⟩
                      · exact have h := iteFb hc h; tK<|tR<|rM J J<|ARun.qv (n_build J J J J J) J<|ARun.qv (q_nilCheck_ptr J) J<|rF J J J<|n_store_ptr J J J J .p0 J J<|rN<|ATodo.stop<|ImpX.lq [0,0,0] ⟨(0 : Int),(0 : Int),h,J⟩ J J
                  · rintro σ' ⟨n18, n19, h, rfl⟩
                    unfold Q_track_step_j7 at h
                    exact ATodo.stop<|ImpX.lq [0,0,0] ⟨p0x0.state_,n18,n19,h,J⟩ J J
              · rintro σ' ⟨n12, n13, n14, h, rfl⟩
                unfold Q_track_step_j5 at h
                exact ATodo.stop<|ImpX.lq [0,0,0] ⟨n12,n13,n14,h,J⟩ J J
          · rintro σ' ⟨n7, n8, n9, h, rfl⟩
            unfold Q_track_step_j4 at h
            exact ATodo.stop<|ImpX.lq [0,0,0] ⟨n7,n8,n9,h,J⟩ J J
      · rintro σ' ⟨n4, n5, n6, h, rfl⟩
        unfold Q_track_step_j3 at h
        refine ATodo.blk<|tS<|bndE h fun l20 e3 h=>ATodo.regionT (id := 23) (A := [0,0,2,6,14,0,32,126,255,511,1023]) (H0 := [(b_0x2,aE2 p0x0.done_)]) (HH := fun β=>[((β 7),aE2 l20),(b_0,.cells [.str p0x0.device_,.str p0x0.rule_,.sl 6 b_0x2 0 p0x0.done_.length,I n4,I n5,I n6]),(b1,.cells (cE0 p1x0))]) 8 mixed J (by kernel_rfl) (by kernel_rfl) [⟨none,some 7,[],fun _=>(b_0x2,aE2 p0x0.done_),none,[]⟩,⟨some 7,none,[],fun b=>(b,aE2 l20),none,[]⟩] [7] J (by kernel_rfl) J (.cons .p1 .nil) (fun _=>J)<|AT.am 7 J J<|AM.qv (q_move J) J<|AM.qv (q_move J) J<|AM.qv (q_nilCheck_ptr J) J<|AM.qv (n_field_ptr J J) J<|AM.qv (q_load_ptr J J .p0 J) J<|AM.qv (q_load_ptr_all J J .p1 J) J<|AM.buildSliceL (xs := ([p1x0] : List Signal).map Signal.av) J J J J J J<|AM.nil<|AT.runD (V := fun b=>.sl 6 b 0 l20.length) (Ti := [(b_0x2,aE2 p0x0.done_)]) (Pi := fun b=>[(b,aE2 l20)]) (fun _=>J) (fun _=>J) (fun _ _=>J) J (fun _=>J) J J J ?_ ?_
        · exact t_append (g := Signal.av) J J J J J J J J (.list _) e3 (fun _=>.p0) J fun b21=>ARun.nil ⟨b21,_,J,J⟩
        refine AT.nilN (fun _=>J) fun β=>?_
        generalize β 7 = b21
        clear β
        refine ARun.qv (q_nilCheck_ptr J) J<|rF J J J<|n_store_ptr J J J J .p1 J J<|rN<|tSR<|rA J J<|rN<|ATodo.ret<|?_
        obtain rfl := Option.some.inj h
        exact ImpX.here ⟨_,.cons (.tmp _ _ J) .nil,_,.cons .p1 (.cons .p0 .nil),⟨b21,J,J⟩⟩

theorem Q_tracksAt_2x_c [GI : GTab] {p0x0 : Fleetref1_track} {p1x0 : Fleetref1_track} {r : Int} (h : Q_tracksAt_2x p0x0 p1x0 = some r) : Pu Tryz.prog 158 [.rptr [.str p0x0.device_,.str p0x0.rule_,lE2 p0x0.done_,I p0x0.state_,I p0x0.shelved_.From,I p0x0.shelved_.To],.rptr [.str p1x0.device_,.str p1x0.rule_,lE2 p1x0.done_,I p1x0.state_,I p1x0.shelved_.From,I p1x0.shelved_.To]] (I r) := by
  unfold Q_tracksAt_2x at h
  refine ACall.bodyN Tryz.func158 J Tryz.ntmps158 Tryz.results158 J J ?_
  refine tSR<|rA J J<|rN<|tS<|ATodo.regionM (id := 1) (A := [0,1,3,7,0,16,48,112,255,0,512,1536,3584,0,8192,24576,57344,131071,262143,524287,1048575]) 21 mixed J (by kernel_rfl) (by kernel_rfl)<|AM.qv (q_move J) J<|AM.qv (q_nilCheck_rptr J) J<|AM.qv (n_field_rptr J J) J<|AM.qv (q_load_rptr J J J) J<|AM.qv (q_move J) J<|AM.qv (q_nilCheck_rptr J) J<|AM.qv (n_field_rptr J J) J<|AM.qv (q_load_rptr J J J) J<|AM.callp J (strings_Compare_c J) (CoL.refl _) J<|AM.qv (q_move J) J<|AM.qv (q_nilCheck_rptr J) J<|AM.qv (n_field_rptr J J) J<|AM.qv (q_load_rptr J J J) J<|AM.qv (q_move J) J<|AM.qv (q_nilCheck_rptr J) J<|AM.qv (n_field_rptr J J) J<|AM.qv (q_load_rptr J J J) J<|AM.callp J (strings_Compare_c J) (CoL.refl _) J<|AM.buildSliceL (xs := ([(Lib.compareBytes p0x0.device_ p1x0.device_),(Lib.compareBytes p0x0.rule_ p1x0.rule_)] : List Int).map I) J J J J J J<|bndE h fun v1 e1 h=>AM.callp J (cmp_Or_int_c e1) (CoL.refl _) J<|AM.qv (q_assign J) J<|AM.nil<|rN<|ATodo.ret<|?_
  obtain rfl := Option.some.inj h
  exact ImpX.here ⟨_,.cons (.tmp _ _ J) .nil,J⟩

theorem slices_SortFunc__Q_track_Q_track_k : SortP Tryz.prog 157 := ⟨fun enc h1 cf hO g cb blk off cap d w eg hc hH hb hs=>Any.slices_SortFunc_eq Tryz.sortP157 enc h1 cf hO g cb blk off cap d w eg hc hH hb hs,fun p cap fv w=>AnyF.slices_SortFunc_none { Tryz.sortP157 with } p cap fv w⟩

theorem Q_tracksAt_c [GI : GTab] {p0x0 : List Signal} {p1x0 : Int} {r : (List Fleetref1_track) × (List Refused)} (h : Q_tracksAt p0x0 p1x0 = some r) : ACall Tryz.prog 93 [lE2 p0x0,I p1x0] [] (T1 (fun d_1=>[(d_1,aE6 r.2)]) (fun d_1=>.tup [lE7 r.1,.sl 2 d_1 0 r.2.length])) := by
  unfold Q_tracksAt at h
  refine ACall.lessH ?_
  refine ACall.bodyN Tryz.func93 J Tryz.ntmps93 Tryz.results93 J J ?_
  refine ATodo.ghost (ImpX.poolNew (kb := kE1) (fun b1 bo2 bs3=>ImpX.here ?_))
  refine tSR<|rA J J<|rA J J<|rN<|tSR<|rA J J<|rN<|tSR<|rA J J<|rN<|tS<|tSR<|rM J J<|ARun.qv (t_len J) J<|rM J J<|rN<|ATodo.cut (fun σ'=>∃ (bo5 : Nat → Bk) (bs6 : Nat → Nat → Bk) (b7 : Bk) (b9 : Bk) (l4 : List Fleetref1_track) (l8 : List Int) (l10 : List Refused),Q_tracksAt_j1 l4 l8 l10 = some r ∧ σ' = ⟨58,[(6,.sl 1 b7 0 l8.length),(7,.sl 2 b9 0 l10.length)],[(b1,.pool (araE kE1 bo5 bs6 l4)),(b7,.arr 1 (l8.map (pA bo5))),(b9,aE6 l10)]⟩) ?_ ?_
  · refine ATodo.block<|ATodo.loopI (fun x : (List Fleetref1_track) × (List Int) × (List Refused) × Int=>Q_tracksAt_b1 p0x0 p1x0 x.1 x.2.1 x.2.2.1 x.2.2.2) (fun x σ'=>∃ (bo20 : Nat → Bk) (bs21 : Nat → Nat → Bk) (b22 : Bk) (b24 : Bk),σ' = ⟨58,[(1,I p1x0),(6,.sl 1 b22 0 x.2.1.length),(7,.sl 2 b24 0 x.2.2.1.length),(12,lE2 p0x0),(13,I (p0x0.length : Int)),(14,I x.2.2.2)],[(b1,.pool (araE kE1 bo20 bs21 x.1)),(b22,.arr 1 (x.2.1.map (pA bo20))),(b24,aE6 x.2.2.1)]⟩) h ?_ ?_
    · exact ImpX.arr (s := 6) 1 J fun b27=>ImpX.arr (s := 7) 2 J fun b28=>ImpX.lq [2,1,0] ⟨bo2,bs3,b27,b28,J⟩ J J
    · intro x z1 σ' J1 hmk h hJ1 hA1
      obtain ⟨l19, l23, l25, n26⟩ := x
      obtain ⟨bo20, bs21, b22, b24, rfl⟩ := hmk
      replace h : Q_tracksAt_b1 p0x0 p1x0 l19 l23 l25 n26 = some z1 := h
      unfold Q_tracksAt_b1 at h
      refine tSR<|ARun.qv (q_lss J J) J<|rN<|tS<|ATodo.cond_d J (fun hc=>?_) (fun hc=>?_)
      · refine have h := iteT hc h; tK<|tS<|ATodo.block<|tSR<|rM J J<|bndE h fun v29 e1 h=>ARun.qv (t_index J J J e1 J J) J<|ARun.qv (q_load_rptr_agg J J J) J<|n_alloc J J J J fun b30=>rA J J<|n_store_ptr J J J J .p0 J J<|rN<|tS<|tSR<|rF J J J<|rL J J .p0 J J<|rM J J<|ARun.qv (q_gtr J J) J<|rN<|ATodo.cond_d J (fun hc=>?_) (fun hc=>?_)
        · exact have h := iteT hc h; ATodo.exit J<|have h := outL h hA1; ATodo.stop<|ImpX.lq [1,1,1] ⟨bo20,bs21,b22,b24,l19,l23,l25,h,J⟩ J J
        · refine have h := iteF hc h; tK<|tSR<|rM J J<|ARun.qv (q_makeFunc J) J<|bndE h fun l31 e2 h=>bndE h fun v32 e3 h=>r_callpB J (slices_IndexFunc__Q_track_Q_track_c (fun e=>Q_tracksAt_1x_c (Option.some.inj e)) e3) (.cons (CoB.araL (bp := b1) (kb := kE1) (bs := bs21) (M := l19) KB1 e2 (.inl .p2) .p1) (.cons (.funcL _ _ _ (.cons (.boxL _ _ _ .p0 (.cons (.co (.refl _)) (.cons (.co (.refl _)) (.cons (.co (.refl _)) (.cons (.co (.refl _)) (.cons (.co (.refl _)) (.cons (.co (.refl _)) .nil))))))) .nil)) .nil)) J J<|rA J J<|rN<|tS<|tSR<|rM J J<|ARun.qv (q_lss J J) J<|rN<|ATodo.cut (fun σ'=>∃ (bo34 : Nat → Bk) (bs35 : Nat → Nat → Bk) (b36 : Bk) (l33 : List Fleetref1_track) (l37 : List Int) (n38 : Int),Q_tracksAt_j2 l25 n26 v29 l33 l37 n38 = some z1 ∧ σ' = ⟨58,[(1,I p1x0),(6,.sl 1 b36 0 l37.length),(7,.sl 2 b24 0 l25.length),(8,I n26),(9,.ptr b30 0),(10,I n38),(12,lE2 p0x0),(13,I (p0x0.length : Int)),(14,I n26)],[(b1,.pool (araE kE1 bo34 bs35 l33)),(b36,.arr 1 (l37.map (pA bo34))),(b24,aE6 l25),(b30,.cells (cE0 v29))]⟩) ?_ ?_
          · refine ATodo.cond_d J (fun hc=>?_) (fun hc=>?_)
            · exact have h := iteT hc h; tSR<|rM J J<|ARun.qv (t_len_sl J) J<|rA J J<|rN<|tR<|rM J J<|rF J J J<|rL J J .p0 J J<|rF J J J<|rL J J .p0 J J<|ARun.qv (n_build J J J J J) J<|n_box J J J J fun b39=>ARun.ghost<|ImpX.arrBox (j := 2) 6 (fun _=>.p0) J (fun _=>J) (fun _=>J) fun b40=>ImpX.here<|bndE h fun u41 e4 h=>ARun.ghost<|ImpX.araAddN (kb := kE1) (v := (⟨v29.Device,v29.Rule,[],(0 : Int),(⟨(0 : Int),(0 : Int)⟩ : Window)⟩ : Fleetref1_track)) (s := nbk [b40]) (.cons .p1 (.cons .p0 .nil)) J (fun _ _=>.p1) fun bo42 bs43 hEe5 hNe5=>ImpX.here<|ARun.ghost<|ImpX.obEq (re_arr hEe5 e4) .p2<|ImpX.here<|ARun.ghost<|ImpX.eqs (s := 36) (av' := .ptr (bo42 (l19.length : Int).toNat) 0) J (re_new hNe5 _)<|ImpX.here<|n_buildSliceL (xs := ([(l19.length : Int)]).map (pA bo42)) J J J J J J<|bndE h fun l44 e6 h=>t_append (g := (pA bo42)) J J J J J J J J (.list _) e6 (fun _=>.p2) J fun b45=>rA J J<|rN<|ATodo.stop<|ImpX.lq [1,1,1,0] ⟨bo42,bs43,b45,l19 ++ [(⟨v29.Device,v29.Rule,[],(0 : Int),(⟨(0 : Int),(0 : Int)⟩ : Window)⟩ : Fleetref1_track)],l44,(l23.length : Int),h,J⟩ J J
            · exact have h := iteF hc h; tK<|ATodo.stop<|ImpX.lq [1,1,1,0] ⟨bo20,bs21,b22,l19,l23,v32,h,J⟩ J J
          · rintro σ' ⟨bo34, bs35, b36, l33, l37, n38, h, rfl⟩
            unfold Q_tracksAt_j2 at h
            refine tS<|ATodo.regionM (id := 11) (A := [0,0,3,7,0,31,63]) 5 mixed J (by kernel_rfl) (by kernel_rfl)<|AM.qv (q_move J) J<|AM.qv (q_move J) J<|bndE h fun v46 e7 h=>AM.qv (t_index_sl J J J e7) J<|AM.qv (t_load_aptr (g := (pA bo34)) J J (.inl .p1) e7 J) J<|AM.qv (q_load_ptr_all J J .p3 J) J<|AM.nil<|bndE h fun v47 e8 h=>ARun.ghost<|ImpX.araTakeN (kb := kE1) e8 .p0 J<|ImpX.here<|bndE h fun v48 e9 h=>t_call1 J (Q_track_step_c e9) (CoL.refl _) (.cons .p0 (.cons .p0 .nil)) (fun _=>J) J fun b49=>rA J J<|ARun.ghost<|ImpX.araPutN (kb := kE1) (v' := v48.2) (s := nbk [b49]) e8 (.cons .p0 (.cons .p0 .nil)) J (fun _=>.p0) fun bs50=>ImpX.here<|rN<|tSR<|rM J J<|ARun.qv (q_neq J J) J<|rN<|ATodo.cut (fun σ'=>∃ (b51 : Bk) (l52 : List Refused),Q_tracksAt_j3 n26 l33 l37 v46 v48 l52 = some z1 ∧ σ' = ⟨58,[(1,I p1x0),(6,.sl 1 b36 0 l37.length),(7,.sl 2 b51 0 l52.length),(12,lE2 p0x0),(13,I (p0x0.length : Int)),(14,I n26)],[(b1,.pool (araE kE1 bo34 bs50 (l33.set v46.toNat v48.2))),(b36,.arr 1 (l37.map (pA bo34))),(b51,aE6 l52)]⟩) ?_ ?_
            · refine ATodo.cond_d J (fun hc=>?_) (fun hc=>?_)
              · exact have h := iteT hc h; tR<|rM J J<|rM J J<|rM J J<|ARun.qv (n_build J J J J J) J<|n_buildSliceL (xs := ([(⟨n26,v48.1⟩ : Refused)]).map Refused.av) J J J J J J<|bndE h fun l53 e10 h=>t_append (g := Refused.av) J J J J J J J J (.list _) e10 (fun _=>.p2) J fun b54=>rA J J<|rN<|ATodo.stop<|ImpX.lq [0,0,0] ⟨b54,l53,h,J⟩ J J
              · exact have h := iteF hc h; tK<|ATodo.stop<|ImpX.lq [0,0,0] ⟨b24,l25,h,J⟩ J J
            · rintro σ' ⟨b51, l52, h, rfl⟩
              unfold Q_tracksAt_j3 at h
              refine ATodo.blk<|tR<|ARun.qv (q_addw J J) J<|rM J J<|rN<|ATodo.stop<|?_
              obtain rfl := Option.some.inj h
              exact hJ1 _ _ J<|ImpX.lq [0,0,0] ⟨bo34,bs50,b36,b51,J⟩ J J
      · exact have h := iteF hc h; ATodo.exit J<|have h := outL h hA1; ATodo.stop<|ImpX.lq [0,0,0] ⟨bo20,bs21,b22,b24,l19,l23,l25,h,J⟩ J J
  · rintro σ' ⟨bo5, bs6, b7, b9, l4, l8, l10, h, rfl⟩
    unfold Q_tracksAt_j1 at h
    refine tSR<|rM J J<|bndE h fun l55 e11 h=>t_call0 J (sortA_acall slices_SortFunc__Q_track_Q_track_k KB1 (fun e=>Q_tracksAt_2x_c (GI := strongT) e) e11) (CoL.refl _) (.cons .p1 (.cons .p0 .nil)) J J<|ARun.ghost<|ImpX.eqs (s := 6) (av' := .sl 1 b7 0 l55.length) J (congrArg (AV.sl 1 b7 0) (sortA_len e11))<|ImpX.here<|ARun.ghost<|ImpX.eqs (s := 54) (av' := .sl 1 b7 0 l55.length) J (congrArg (AV.sl 1 b7 0) (sortA_len e11))<|ImpX.here<|rN<|tSR<|rM J J<|rM J J<|rA J J<|rA J J<|rN<|ATodo.ret<|bndE h fun l56 e12 h=>?_
    obtain rfl := Option.some.inj h
    exact ImpX.cobFrz (s := 4) J (.cons .p0 (.cons .p0 .nil)) (CoB.araL KB1 e12 (.inl .p0) .p1)<|ImpX.here ⟨_,.cons (.tmp _ _ J) (.cons (.tmp _ _ J) .nil),_,.cons .p0 .nil,⟨b9,J,J⟩⟩

theorem Q_RefusedSignals_c [GI : GTab] {p0x0 : List Signal} {r : (List Refused)} (h : Q_RefusedSignals p0x0 = some r) : ACall Tryz.prog 25 [lE2 p0x0] [] (T1 (fun d_0=>[(d_0,aE6 r)]) (fun d_0=>.sl 2 d_0 0 r.length)) := by
  unfold Q_RefusedSignals at h
  refine ACall.lessH ?_
  refine ACall.bodyN Tryz.func25 J Tryz.ntmps25 Tryz.results25 J J ?_
  refine tSR<|rA J J<|rN<|tSR<|rM J J<|bndE h fun v1 e1 h=>t_call1 J (Q_tracksAt_c e1) (CoL.refl _) .nil (fun _=>J) J fun b2=>rM J J<|rX J J J<|rX J J J<|rA J J<|rA J J<|rN<|tSR<|rM J J<|rA J J<|rN<|ATodo.ret<|?_
  obtain rfl := Option.some.inj h
  exact ImpX.here ⟨_,.cons (.tmp _ _ J) .nil,_,.cons .p0 .nil,⟨b2,J,J⟩⟩

theorem slices_Equal_Refused_Refused_c [GI : GTab] {p0x0 : List Refused} {p1x0 : List Refused} {r : Bool} (h : slices_Equal_Refused_Refused p0x0 p1x0 = some r) : Pu Tryz.prog 24 [lE6 p0x0,lE6 p1x0] (.bool r) := by
  unfold slices_Equal_Refused_Refused at h
  refine ACall.bodyN Tryz.func24 J Tryz.ntmps24 Tryz.results24 J J ?_
  refine tSR<|rA J J<|rN<|tS<|tSR<|rM J J<|ARun.qv (t_len J) J<|rM J J<|ARun.qv (t_len J) J<|ARun.qv (q_neq J J) J<|rN<|ATodo.cond_d J (fun hc=>?_) (fun hc=>?_)
  · refine have h := iteT hc h; tSR<|rA J J<|rN<|ATodo.ret<|?_
    obtain rfl := Option.some.inj h
    exact ImpX.here ⟨_,.cons (.tmp _ _ J) .nil,J⟩
  · refine have h := iteF hc h; tK<|tS<|tSR<|rM J J<|ARun.qv (t_len J) J<|rM J J<|rN<|ATodo.block<|ATodo.loopI (fun x : Int=>slices_Equal_Refused_Refused_b1 p0x0 p1x0 x) (fun x σ'=>σ' = ⟨26,[(0,lE6 p0x0),(1,lE6 p1x0),(12,I (p0x0.length : Int)),(13,I x)],[]⟩) h ?_ ?_
    · exact ImpX.lq [] J J J
    · intro n2 z1 σ' J1 hmk h hJ1 hA1
      obtain rfl := hmk
      replace h : slices_Equal_Refused_Refused_b1 p0x0 p1x0 n2 = some z1 := h
      unfold slices_Equal_Refused_Refused_b1 at h
      refine tSR<|ARun.qv (q_lss J J) J<|rN<|tS<|ATodo.cond_d J (fun hc=>?_) (fun hc=>?_)
      · refine have h := iteT hc h; tK<|tS<|ATodo.block<|tSR<|rM J J<|rA J J<|rN<|tS<|ATodo.regionM (id := 6) (A := [0,0,3,7,0,0,48,112,255]) 9 mixed J (by kernel_rfl) (by kernel_rfl)<|AM.qv (q_move J) J<|AM.qv (q_move J) J<|bndE h fun v3 e1 h=>AM.qv (t_index J J J e1 J J) J<|AM.qv (q_load_rptr_agg J J J) J<|AM.qv (q_move J) J<|AM.qv (q_move J) J<|bndE h fun v4 e2 h=>AM.qv (t_index J J J e2 J J) J<|AM.qv (q_load_rptr_agg J J J) J<|AM.qv (t_tne (g := Refused.av) (X := v3) (Y := v4) J J J J J) J<|AM.nil<|rN<|ATodo.cond_d J (fun hc=>?_) (fun hc=>?_)
        · refine have h := iteT hc h; tSR<|rA J J<|rN<|ATodo.ret<|have h := outL h hA1; ?_
          obtain rfl := Option.some.inj h
          exact ImpX.here ⟨_,.cons (.tmp _ _ J) .nil,J⟩
        · refine have h := iteF hc h; tK<|ATodo.blk<|tR<|ARun.qv (q_addw J J) J<|rM J J<|rN<|ATodo.stop<|?_
          obtain rfl := Option.some.inj h
          exact hJ1 _ _ J<|ImpX.lq [] J J J
      · refine have h := iteF hc h; ATodo.exit J<|have h := outL h hA1; tSR<|rA J J<|rN<|ATodo.ret<|?_
        obtain rfl := Option.some.inj h
        exact ImpX.here ⟨_,.cons (.tmp _ _ J) .nil,J⟩

theorem alarm_at_c [GI : GTab] {p0x0 : List Signal} {p1x0 : Int} {r : Alarm_house} (h : alarm_at p0x0 p1x0 = some r) : ACall Tryz.prog 94 [lE2 p0x0,I p1x0] [] (T6 (fun d_0 d_0x0 d_0x1 d_0x2 d_0x2o d_0x2s=>[(d_0,.cells [.mref d_0x0,.sl 1 d_0x1 0 r.order_.length]),(d_0x0,.mp (r.all_.map (fun e=>(Alarm_name.av e.1,(pA d_0x2o) e.2)))),(d_0x1,.arr 1 (r.order_.map (pA d_0x2o))),(d_0x2,.pool (araE kE0 d_0x2o d_0x2s r.ar0))]) (fun d_0 d_0x0 d_0x1 d_0x2 d_0x2o d_0x2s=>.ptr d_0 0)) := by
  unfold alarm_at at h
  refine ACall.lessH ?_
  refine ACall.bodyN Tryz.func94 J Tryz.ntmps94 Tryz.results94 J J ?_
  refine tSR<|rA J J<|rN<|tSR<|rM J J<|bndE h fun v1 e1 h=>t_call6 J (alarm_newHouse_c e1) (CoL.refl _) .nil (fun _ _ _ _ _ _=>J) J fun b2 b3 b4 b5 bo6 bs7=>rA J J<|rN<|tS<|tSR<|rM J J<|ARun.qv (t_len J) J<|rM J J<|rN<|ATodo.block<|ATodo.loopI (fun x : (List (Alarm_name × Int)) × (List Alarm_life) × (List Int) × Int=>alarm_at_b1 p0x0 p1x0 x.1 x.2.1 x.2.2.1 x.2.2.2) (fun x σ'=>∃ (bs16 : Nat → Nat → Bk) (b17 : Bk),σ' = ⟨25,[(1,I p1x0),(5,.ptr b2 0),(10,lE2 p0x0),(11,I (p0x0.length : Int)),(12,I x.2.2.2)],[(b2,.cells [.mref b3,.sl 1 b17 0 x.2.2.1.length]),(b3,.mp (x.1.map (fun e=>(Alarm_name.av e.1,(pA bo6) e.2)))),(b5,.pool (araE kE0 bo6 bs16 x.2.1)),(b17,.arr 1 (x.2.2.1.map (pA bo6)))]⟩) h ?_ ?_
  · exact ImpX.lq [0,0,1,0] ⟨bs7,b4,J⟩ J J
  · intro x z1 σ' J1 hmk h hJ1 hA1
    obtain ⟨l14, l15, l18, n19⟩ := x
    obtain ⟨bs16, b17, rfl⟩ := hmk
    replace h : alarm_at_b1 p0x0 p1x0 l14 l15 l18 n19 = some z1 := h
    unfold alarm_at_b1 at h
    refine tSR<|ARun.qv (q_lss J J) J<|rN<|tS<|ATodo.cond_d J (fun hc=>?_) (fun hc=>?_)
    · refine have h := iteT hc h; tK<|tS<|ATodo.block<|tSR<|bndE h fun v20 e2 h=>ARun.qv (t_index J J J e2 J J) J<|ARun.qv (q_load_rptr_agg J J J) J<|n_alloc J J J J fun b21=>n_store_ptr J J J J .p0 J J<|rN<|tSR<|rF J J J<|rL J J .p0 J J<|rM J J<|ARun.qv (q_leq J J) J<|rN<|ATodo.cut (fun σ'=>∃ (bs24 : Nat → Nat → Bk) (b25 : Bk) (l22 : List (Alarm_name × Int)) (l23 : List Alarm_life) (l26 : List Int),alarm_at_j1 n19 l22 l23 l26 = some z1 ∧ σ' = ⟨25,[(1,I p1x0),(5,.ptr b2 0),(10,lE2 p0x0),(11,I (p0x0.length : Int)),(12,I n19)],[(b2,.cells [.mref b3,.sl 1 b25 0 l26.length]),(b3,.mp (l22.map (fun e=>(Alarm_name.av e.1,(pA bo6) e.2)))),(b5,.pool (araE kE0 bo6 bs24 l23)),(b25,.arr 1 (l26.map (pA bo6)))]⟩) ?_ ?_
      · refine ATodo.cond_d J (fun hc=>?_) (fun hc=>?_)
        · exact have h := iteT hc h; tR<|rM J J<|ARun.qv (q_load_ptr_all J J .p0 J) J<|bndE h fun v27 e3 h=>t_call2 J (alarm_house_follow_c0x1x_c e3) (CoL.refl _) (.cons .p1 (.cons .p1 (.cons .p2 (.cons .p1 .nil)))) (fun _ _=>J) J fun b28 bs29=>rN<|ATodo.stop<|ImpX.lq [0,0,1,0] ⟨bs29,b28,v27.2.all_,v27.2.ar0,v27.2.order_,h,J⟩ J J
        · exact have h := iteF hc h; tK<|ATodo.stop<|ImpX.lq [1,1,1,1] ⟨bs16,b17,l14,l15,l18,h,J⟩ J J
      · rintro σ' ⟨bs24, b25, l22, l23, l26, h, rfl⟩
        unfold alarm_at_j1 at h
        refine ATodo.blk<|tR<|ARun.qv (q_addw J J) J<|rM J J<|rN<|ATodo.stop<|?_
        obtain rfl := Option.some.inj h
        exact hJ1 _ _ J<|ImpX.lq [0,0,0,0] ⟨bs24,b25,J⟩ J J
    · refine have h := iteF hc h; ATodo.exit J<|have h := outL h hA1; tSR<|rM J J<|rA J J<|rN<|ATodo.ret<|?_
      obtain rfl := Option.some.inj h
      exact ImpX.here ⟨_,.cons (.tmp _ _ J) .nil,_,.cons .p0 (.cons .p0 (.cons .p1 (.cons .p0 .nil))),⟨b2,b3,b17,b5,bo6,bs16,J,J⟩⟩

theorem alarm_life_view_c [GI : GTab] {p0x0 : Alarm_life} {p1x0 : Int} {r : Alarm × Bool} (h : alarm_life_view p0x0 p1x0 = r) : Pu Tryz.prog 95 [.rptr [.str p0x0.name_.device_,.str p0x0.name_.rule_,I p0x0.state_,I p0x0.since_,lE0 p0x0.raises_,I p0x0.shelved_,lE5 p0x0.up_,lE5 p0x0.fresh_,lE5 p0x0.aside_,lE0 p0x0.acks_,lE0 p0x0.waits_],I p1x0] (.tup [Alarm.av r.1,.bool r.2]) := by
  unfold alarm_life_view at h
  refine ACall.bodyN Tryz.func95 J Tryz.ntmps95 Tryz.results95 J J ?_
  refine tSR<|n_alloc J J J J fun b1=>rA J J<|rN<|tS<|ATodo.regionT (id := 1) (A := [0,1,3,7,15,0,32,96,224,480,0,1024,3072,7168,0,16384,49152,114688,0,262144,786432,1835008,3932160,8388607,0,33554431]) (H0 := []) (HH := fun β=>[((β 24),.cells [.str [],.str [],I (0 : Int),I (0 : Int),I (0 : Int),I (0 : Int)]),(b1,.cells [.str [],.str [],I (0 : Int),I (0 : Int),I (0 : Int),I (0 : Int)])]) 25 mixed J (by kernel_rfl) (by kernel_rfl) [⟨some 24,none,[],fun b=>(b,.cells [.str [],.str [],I (0 : Int),I (0 : Int),I (0 : Int),I (0 : Int)]),none,[]⟩] [24] J (by kernel_rfl) J .nil (fun _=>J)<|AT.am 24 J J<|AM.qv (q_move J) J<|AM.qv (q_nilCheck_rptr J) J<|AM.qv (n_field_rptr J J) J<|AM.qv (n_field_rptr J J) J<|AM.qv (q_load_rptr J J J) J<|AM.qv (q_move J) J<|AM.qv (q_nilCheck_rptr J) J<|AM.qv (n_field_rptr J J) J<|AM.qv (n_field_rptr J J) J<|AM.qv (q_load_rptr J J J) J<|AM.qv (q_move J) J<|AM.qv (q_nilCheck_rptr J) J<|AM.qv (n_field_rptr J J) J<|AM.qv (q_load_rptr J J J) J<|AM.qv (q_move J) J<|AM.qv (q_nilCheck_rptr J) J<|AM.qv (n_field_rptr J J) J<|AM.qv (q_load_rptr J J J) J<|AM.qv (q_move J) J<|AM.qv (q_nilCheck_rptr J) J<|AM.qv (n_field_rptr J J) J<|AM.qv (q_load_rptr J J J) J<|AM.qv (t_len J) J<|AM.qv (n_build J J J J J) J<|AM.nil<|AT.runD (V := fun b=>.ptr b 0) (Ti := []) (Pi := fun b=>[(b,.cells [.str [],.str [],I (0 : Int),I (0 : Int),I (0 : Int),I (0 : Int)])]) (fun _=>J) (fun _=>J) (fun _ _=>J) J (fun _=>J) J J J ?_ ?_
  · exact n_alloc J J J J fun b2=>ARun.nil ⟨b2,_,J,J⟩
  refine AT.nilN (fun _=>J) fun β=>?_
  generalize β 24 = b2
  clear β
  refine n_store_ptr J J J J .p0 J J<|rN<|tS<|tSR<|rM J J<|ARun.qv (q_nilCheck_rptr J) J<|ARun.qv (n_field_rptr J J) J<|ARun.qv (q_load_rptr J J J) J<|rM J J<|ARun.qv (q_gtr J J) J<|rN<|ATodo.cut (fun σ'=>∃ (n3 : Int),alarm_life_view_j1 p0x0 n3 = r ∧ σ' = ⟨51,[(4,.ptr b1 0),(6,.ptr b2 0)],[(b1,.cells [.str [],.str [],I (0 : Int),I (0 : Int),I (0 : Int),I (0 : Int)]),(b2,.cells [.str p0x0.name_.device_,.str p0x0.name_.rule_,I p0x0.state_,I p0x0.since_,I (p0x0.raises_.length : Int),I n3])]⟩) ?_ ?_
  · refine ATodo.cond_d J (fun hc=>?_) (fun hc=>?_)
    · exact have h := iteT hc h; tR<|rM J J<|ARun.qv (q_nilCheck_rptr J) J<|ARun.qv (n_field_rptr J J) J<|ARun.qv (q_load_rptr J J J) J<|rF J J J<|n_store_ptr J J J J .p0 J J<|rN<|ATodo.stop<|ImpX.lq [1,0] ⟨p0x0.shelved_,h,J⟩ J J
    · exact have h := iteF hc h; tK<|ATodo.stop<|ImpX.lq [1,0] ⟨(0 : Int),h,J⟩ J J
  · rintro σ' ⟨n3, h, rfl⟩
    unfold alarm_life_view_j1 at h
    refine tS<|ATodo.cut (fun σ'=>∃ (c4 : Bool),alarm_life_view_j2 p0x0 n3 c4 = r ∧ σ' = ⟨51,[(4,.ptr b1 0),(5,.bool c4)],[(b1,.cells [.str p0x0.name_.device_,.str p0x0.name_.rule_,I p0x0.state_,I p0x0.since_,I (p0x0.raises_.length : Int),I n3])]⟩) ?_ ?_
    · refine Classical.byCases (p := p0x0.state_ ≠ (0 : Int)) (fun hqe1=>?_) (fun hqe1=>?_)
      · replace h := iteT hqe1 h
        refine ATodo.regionT (id := 4) (A := [0,0,2,6,14,30,62,126,254,31,1023]) (H0 := [(b1,.cells [.str [],.str [],I (0 : Int),I (0 : Int),I (0 : Int),I (0 : Int)])]) (HH := fun β=>[(b1,.cells [.str p0x0.name_.device_,.str p0x0.name_.rule_,I p0x0.state_,I p0x0.since_,I (p0x0.raises_.length : Int),I n3]),(b2,.cells [.str p0x0.name_.device_,.str p0x0.name_.rule_,I p0x0.state_,I p0x0.since_,I (p0x0.raises_.length : Int),I n3])]) 10 mixed J (by kernel_rfl) (by kernel_rfl) [⟨none,some 9,[],fun _=>(b1,.cells [.str [],.str [],I (0 : Int),I (0 : Int),I (0 : Int),I (0 : Int)]),none,[]⟩,⟨some 9,none,[],fun _=>(b1,.cells [.str p0x0.name_.device_,.str p0x0.name_.rule_,I p0x0.state_,I p0x0.since_,I (p0x0.raises_.length : Int),I n3]),none,[]⟩] [] J (by kernel_rfl) J (.cons .p0 .nil) (fun _=>J)<|AT.am 9 J J<|AM.qv (q_load_ptr_all J J .p0 J) J<|AM.qv (n_field_ptr J J) J<|AM.qv (q_load_ptr J J .p0 J) J<|AM.qv (q_neq J J) J<|AM.qv (QV.dT hqe1 (q_move J)) J<|AM.guard_no J J J J<|AM.guard_no J J J J<|AM.guard_no J J J J<|AM.qv (q_pick_t J J) J<|AM.nil<|AT.run0 (Ti := [(b1,.cells [.str [],.str [],I (0 : Int),I (0 : Int),I (0 : Int),I (0 : Int)])]) (Pi := [(b1,.cells [.str p0x0.name_.device_,.str p0x0.name_.rule_,I p0x0.state_,I p0x0.since_,I (p0x0.raises_.length : Int),I n3])]) (fun _=>J) (fun _=>J) (fun _=>J) J J ?_ ?_
        · exact n_store_ptr J J J J .p0 J J<|ARun.nil ⟨_,J⟩
        exact AT.nilN (fun _=>J) fun β=>rA J J<|rN<|ATodo.stop<|ImpX.lq [0] ⟨true,h,J⟩ J J
      · replace h := iteF hqe1 h
        refine ATodo.regionT (id := 4) (A := [0,0,2,6,14,30,62,126,254,31,1023]) (H0 := [(b1,.cells [.str [],.str [],I (0 : Int),I (0 : Int),I (0 : Int),I (0 : Int)])]) (HH := fun β=>[(b1,.cells [.str p0x0.name_.device_,.str p0x0.name_.rule_,I p0x0.state_,I p0x0.since_,I (p0x0.raises_.length : Int),I n3]),(b2,.cells [.str p0x0.name_.device_,.str p0x0.name_.rule_,I p0x0.state_,I p0x0.since_,I (p0x0.raises_.length : Int),I n3])]) 10 mixed J (by kernel_rfl) (by kernel_rfl) [⟨none,some 9,[],fun _=>(b1,.cells [.str [],.str [],I (0 : Int),I (0 : Int),I (0 : Int),I (0 : Int)]),none,[]⟩,⟨some 9,none,[],fun _=>(b1,.cells [.str p0x0.name_.device_,.str p0x0.name_.rule_,I p0x0.state_,I p0x0.since_,I (p0x0.raises_.length : Int),I n3]),none,[]⟩] [] J (by kernel_rfl) J (.cons .p0 .nil) (fun _=>J)<|AT.am 9 J J<|AM.qv (q_load_ptr_all J J .p0 J) J<|AM.qv (n_field_ptr J J) J<|AM.qv (q_load_ptr J J .p0 J) J<|AM.qv (q_neq J J) J<|AM.qv (QV.dF hqe1 (q_move J)) J<|AM.guard_yes J J J<|AM.qv (n_field_ptr J J) J<|AM.guard_yes J J J<|AM.qv (q_load_ptr J J .p0 J) J<|AM.guard_yes J J J<|AM.qv (q_gtr J J) J<|AM.qv (q_pick_f J J) J<|AM.nil<|AT.run0 (Ti := [(b1,.cells [.str [],.str [],I (0 : Int),I (0 : Int),I (0 : Int),I (0 : Int)])]) (Pi := [(b1,.cells [.str p0x0.name_.device_,.str p0x0.name_.rule_,I p0x0.state_,I p0x0.since_,I (p0x0.raises_.length : Int),I n3])]) (fun _=>J) (fun _=>J) (fun _=>J) J J ?_ ?_
        · exact n_store_ptr J J J J .p0 J J<|ARun.nil ⟨_,J⟩
        exact AT.nilN (fun _=>J) fun β=>rA J J<|rN<|ATodo.stop<|ImpX.lq [0] ⟨decide ((0 : Int) < n3),h,J⟩ J J
    · rintro σ' ⟨c4, h, rfl⟩
      unfold alarm_life_view_j2 at h
      refine ATodo.ret<|?_
      obtain rfl := h
      exact ImpX.here ⟨_,.cons (.all _ _ _ _ _ _ J .p0 TUnder.h TInfo.h J J) (.cons (.tmp _ _ J) .nil),J⟩

theorem alarm_Alarms_c [GI : GTab] {p0x0 : List Signal} {p1x0 : Int} {r : (List Alarm) × Int} (h : alarm_Alarms p0x0 p1x0 = some r) : ACall Tryz.prog 26 [lE2 p0x0,I p1x0] [] (T1 (fun d_0=>[(d_0,aE8 r.1)]) (fun d_0=>.tup [.sl 6 d_0 0 r.1.length,I r.2])) := by
  unfold alarm_Alarms at h
  refine ACall.lessH ?_
  refine ACall.bodyN Tryz.func26 J Tryz.ntmps26 Tryz.results26 J J ?_
  refine tSR<|rA J J<|rA J J<|rN<|tS<|tSR<|rM J J<|bndE h fun v1 e1 h=>r_callp J (alarm_CheckSignals_c e1) (CoL.refl _) J<|rA J J<|rN<|tSR<|rM J J<|ARun.qv (q_neq J J) J<|rN<|ATodo.cond_d J (fun hc=>?_) (fun hc=>?_)
  · refine have h := iteT hc h; tSR<|rM J J<|rA J J<|rA J J<|rN<|ATodo.ret<|?_
    obtain rfl := Option.some.inj h
    exact ImpX.arr (s := 4) 6 J fun b2=>ImpX.here ⟨_,.cons (.tmp _ _ J) (.cons (.tmp _ _ J) .nil),_,.cons .p0 .nil,⟨b2,J,J⟩⟩
  · refine have h := iteF hc h; tK<|tS<|tSR<|rM J J<|r_callp J (base_Moment_c J) (CoL.refl _) J<|ARun.qv (q_not J) J<|rN<|ATodo.cond J (fun hc=>?_) (fun hc=>?_)
    · refine have h := iteT hc h; tSR<|rA J J<|rA J J<|rN<|ATodo.ret<|?_
      obtain rfl := Option.some.inj h
      exact ImpX.arr (s := 4) 6 J fun b3=>ImpX.here ⟨_,.cons (.tmp _ _ J) (.cons (.tmp _ _ J) .nil),_,.cons .p0 .nil,⟨b3,J,J⟩⟩
    · refine have h := iteFb hc h; tK<|tSR<|rA J J<|rN<|tS<|tSR<|rM J J<|rM J J<|bndE h fun v4 e2 h=>t_call6 J (alarm_at_c e2) (CoL.refl _) .nil (fun _ _ _ _ _ _=>J) J fun b5 b6 b7 b8 bo9 bs10=>ARun.qv (q_nilCheck_ptr J) J<|rF J J J<|rL J J .p0 J J<|ARun.qv (t_len_sl J) J<|rM J J<|rN<|ATodo.block<|ATodo.loopI (fun x : (List Alarm) × Int=>alarm_Alarms_b1 p1x0 v4 x.1 x.2) (fun x σ'=>∃ (b14 : Bk),σ' = ⟨44,[(1,I p1x0),(7,.sl 6 b14 0 x.1.length),(25,.sl 1 b7 0 v4.order_.length),(26,I (v4.order_.length : Int)),(27,I x.2)],[(b14,aE8 x.1),(b7,.arr 1 (v4.order_.map (pA bo9))),(b8,.pool (araE kE0 bo9 bs10 v4.ar0))]⟩) h ?_ ?_
      · exact ImpX.arr (s := 7) 6 J fun b17=>ImpX.lq [0,2,2] ⟨b17,J⟩ J J
      · intro x z1 σ' J1 hmk h hJ1 hA1
        obtain ⟨l15, n16⟩ := x
        obtain ⟨b14, rfl⟩ := hmk
        replace h : alarm_Alarms_b1 p1x0 v4 l15 n16 = some z1 := h
        unfold alarm_Alarms_b1 at h
        refine tSR<|ARun.qv (q_lss J J) J<|rN<|tS<|ATodo.cond_d J (fun hc=>?_) (fun hc=>?_)
        · refine have h := iteT hc h; tK<|tS<|ATodo.block<|tSR<|bndE h fun v18 e3 h=>ARun.qv (t_index_sl J J J e3) J<|ARun.qv (t_load_aptr (g := (pA bo9)) J J (.inl .p1) e3 J) J<|rA J J<|rN<|tSR<|rM J J<|rM J J<|bndE h fun v19 e4 h=>r_callpB J (alarm_life_view_c J) (.cons (CoB.araP' (bp := b8) (kb := kE0) (bs := bs10) (M := v4.ar0) KB0 e4 .p2) (.cons (.co (.refl _)) .nil)) J J<|rM J J<|rX J J J<|rX J J J<|n_alloc J J J J fun b20=>n_store_ptr J J J J .p0 J J<|rA J J<|rN<|tSR<|rM J J<|rN<|ATodo.cut (fun σ'=>∃ (b21 : Bk) (l22 : List Alarm),alarm_Alarms_j1 n16 l22 = some z1 ∧ σ' = ⟨44,[(1,I p1x0),(7,.sl 6 b21 0 l22.length),(25,.sl 1 b7 0 v4.order_.length),(26,I (v4.order_.length : Int)),(27,I n16)],[(b21,aE8 l22),(b7,.arr 1 (v4.order_.map (pA bo9))),(b8,.pool (araE kE0 bo9 bs10 v4.ar0))]⟩) ?_ ?_
          · refine ATodo.cond J (fun hc=>?_) (fun hc=>?_)
            · exact have h := iteT hc h; tR<|rM J J<|ARun.qv (q_load_ptr_all J J .p0 J) J<|n_buildSliceL (xs := ([((alarm_life_view v19 p1x0).1)] : List Alarm).map Alarm.av) J J J J J J<|bndE h fun l23 e5 h=>t_append (g := Alarm.av) J J J J J J J J (.list _) e5 (fun _=>.p1) J fun b24=>rA J J<|rN<|ATodo.stop<|ImpX.lq [1,1,1] ⟨b24,l23,h,J⟩ J J
            · exact have h := iteFb hc h; tK<|ATodo.stop<|ImpX.lq [1,1,1] ⟨b14,l15,h,J⟩ J J
          · rintro σ' ⟨b21, l22, h, rfl⟩
            unfold alarm_Alarms_j1 at h
            refine ATodo.blk<|tR<|ARun.qv (q_addw J J) J<|rM J J<|rN<|ATodo.stop<|?_
            obtain rfl := Option.some.inj h
            exact hJ1 _ _ J<|ImpX.lq [0,0,0] ⟨b21,J⟩ J J
        · refine have h := iteF hc h; ATodo.exit J<|have h := outL h hA1; tSR<|rM J J<|rA J J<|rA J J<|rN<|ATodo.ret<|?_
          obtain rfl := Option.some.inj h
          exact ImpX.here ⟨_,.cons (.tmp _ _ J) (.cons (.tmp _ _ J) .nil),_,.cons .p0 .nil,⟨b14,J,J⟩⟩

theorem Q_track_alarm_c [GI : GTab] {p0x0 : Fleetref1_track} {p1x0 : Int} {r : Alarm} (h : Q_track_alarm p0x0 p1x0 = some r) : Pu Tryz.prog 96 [.rptr [.str p0x0.device_,.str p0x0.rule_,lE2 p0x0.done_,I p0x0.state_,I p0x0.shelved_.From,I p0x0.shelved_.To],I p1x0] (Alarm.av r) := by
  unfold Q_track_alarm at h
  refine ACall.bodyN Tryz.func96 J Tryz.ntmps96 Tryz.results96 J J ?_
  refine tSR<|n_alloc J J J J fun b1=>rN<|tS<|ATodo.regionT (id := 1) (A := [0,1,3,7,0,16,48,112,0,256,768,1792,4095,0,16383]) (H0 := []) (HH := fun β=>[((β 13),.cells [.str [],.str [],I (0 : Int),I (0 : Int),I (0 : Int),I (0 : Int)]),(b1,.cells [.str [],.str [],I (0 : Int),I (0 : Int),I (0 : Int),I (0 : Int)])]) 14 mixed J (by kernel_rfl) (by kernel_rfl) [⟨some 13,none,[],fun b=>(b,.cells [.str [],.str [],I (0 : Int),I (0 : Int),I (0 : Int),I (0 : Int)]),none,[]⟩] [13] J (by kernel_rfl) J .nil (fun _=>J)<|AT.am 13 J J<|AM.qv (q_move J) J<|AM.qv (q_nilCheck_rptr J) J<|AM.qv (n_field_rptr J J) J<|AM.qv (q_load_rptr J J J) J<|AM.qv (q_move J) J<|AM.qv (q_nilCheck_rptr J) J<|AM.qv (n_field_rptr J J) J<|AM.qv (q_load_rptr J J J) J<|AM.qv (q_move J) J<|AM.qv (q_nilCheck_rptr J) J<|AM.qv (n_field_rptr J J) J<|AM.qv (q_load_rptr J J J) J<|AM.qv (n_build J J J J J) J<|AM.nil<|AT.runD (V := fun b=>.ptr b 0) (Ti := []) (Pi := fun b=>[(b,.cells [.str [],.str [],I (0 : Int),I (0 : Int),I (0 : Int),I (0 : Int)])]) (fun _=>J) (fun _=>J) (fun _ _=>J) J (fun _=>J) J J J ?_ ?_
  · exact n_alloc J J J J fun b2=>ARun.nil ⟨b2,_,J,J⟩
  refine AT.nilN (fun _=>J) fun β=>?_
  generalize β 13 = b2
  clear β
  refine n_store_ptr J J J J .p0 J J<|rN<|tS<|tSR<|rM J J<|ARun.qv (q_nilCheck_rptr J) J<|ARun.qv (n_field_rptr J J) J<|ARun.qv (q_load_rptr J J J) J<|ARun.qv (t_len J) J<|rM J J<|rN<|ATodo.block<|ATodo.loopI (fun x : Int × Int × Int=>Q_track_alarm_b1 p0x0 p1x0 x.1 x.2.1 x.2.2) (fun x σ'=>σ' = ⟨67,[(0,.rptr [.str p0x0.device_,.str p0x0.rule_,lE2 p0x0.done_,I p0x0.state_,I p0x0.shelved_.From,I p0x0.shelved_.To]),(1,I p1x0),(4,.ptr b1 0),(5,.ptr b2 0),(24,lE2 p0x0.done_),(25,I (p0x0.done_.length : Int)),(26,I x.2.2)],[(b1,.cells [.str [],.str [],I (0 : Int),I (0 : Int),I (0 : Int),I (0 : Int)]),(b2,.cells [.str p0x0.device_,.str p0x0.rule_,I p0x0.state_,I x.1,I x.2.1,I (0 : Int)])]⟩) h ?_ ?_
  · exact ImpX.lq [1,0] J J J
  · intro x z1 σ' J1 hmk h hJ1 hA1
    obtain ⟨n6, n7, n8⟩ := x
    obtain rfl := hmk
    replace h : Q_track_alarm_b1 p0x0 p1x0 n6 n7 n8 = some z1 := h
    unfold Q_track_alarm_b1 at h
    refine tSR<|ARun.qv (q_lss J J) J<|rN<|tS<|ATodo.cond_d J (fun hc=>?_) (fun hc=>?_)
    · refine have h := iteT hc h; tK<|tS<|ATodo.block<|tSR<|bndE h fun v9 e1 h=>ARun.qv (t_index J J J e1 J J) J<|ARun.qv (q_load_rptr_agg J J J) J<|n_alloc J J J J fun b10=>n_store_ptr J J J J .p0 J J<|rN<|tS<|tSR<|rF J J J<|rL J J .p0 J J<|ARun.qv (q_leq J J) J<|rN<|ATodo.cut (fun σ'=>∃ (n11 : Int),Q_track_alarm_j1 n7 n8 v9 n11 = some z1 ∧ σ' = ⟨67,[(0,.rptr [.str p0x0.device_,.str p0x0.rule_,lE2 p0x0.done_,I p0x0.state_,I p0x0.shelved_.From,I p0x0.shelved_.To]),(1,I p1x0),(4,.ptr b1 0),(5,.ptr b2 0),(7,.ptr b10 0),(24,lE2 p0x0.done_),(25,I (p0x0.done_.length : Int)),(26,I n8)],[(b1,.cells [.str [],.str [],I (0 : Int),I (0 : Int),I (0 : Int),I (0 : Int)]),(b2,.cells [.str p0x0.device_,.str p0x0.rule_,I p0x0.state_,I n11,I n7,I (0 : Int)]),(b10,.cells (cE0 v9))]⟩) ?_ ?_
      · refine ATodo.cond_d J (fun hc=>?_) (fun hc=>?_)
        · exact have h := iteT hc h; tR<|rF J J J<|rL J J .p0 J J<|rF J J J<|n_store_ptr J J J J .p2 J J<|rN<|ATodo.stop<|ImpX.lq [1,1,0] ⟨v9.At,h,J⟩ J J
        · exact have h := iteF hc h; tK<|ATodo.stop<|ImpX.lq [1,1,0] ⟨n6,h,J⟩ J J
      · rintro σ' ⟨n11, h, rfl⟩
        unfold Q_track_alarm_j1 at h
        refine tSR<|rF J J J<|rL J J .p2 J J<|ARun.qv (q_eql J J) J<|rN<|ATodo.cut (fun σ'=>∃ (n12 : Int),Q_track_alarm_j2 n8 n11 n12 = some z1 ∧ σ' = ⟨67,[(0,.rptr [.str p0x0.device_,.str p0x0.rule_,lE2 p0x0.done_,I p0x0.state_,I p0x0.shelved_.From,I p0x0.shelved_.To]),(1,I p1x0),(4,.ptr b1 0),(5,.ptr b2 0),(24,lE2 p0x0.done_),(25,I (p0x0.done_.length : Int)),(26,I n8)],[(b1,.cells [.str [],.str [],I (0 : Int),I (0 : Int),I (0 : Int),I (0 : Int)]),(b2,.cells [.str p0x0.device_,.str p0x0.rule_,I p0x0.state_,I n11,I n12,I (0 : Int)])]⟩) ?_ ?_
        · refine ATodo.cond_d J (fun hc=>?_) (fun hc=>?_)
          · exact have h := iteT hc h; tR<|rF J J J<|rL J J .p1 J J<|ARun.qv (q_addw J J) J<|rF J J J<|n_store_ptr J J J J .p1 J J<|rN<|ATodo.stop<|ImpX.lq [0,0] ⟨w64 (n7 + (1 : Int)),h,J⟩ J J
          · exact have h := iteF hc h; tK<|ATodo.stop<|ImpX.lq [0,0] ⟨n7,h,J⟩ J J
        · rintro σ' ⟨n12, h, rfl⟩
          unfold Q_track_alarm_j2 at h
          refine ATodo.blk<|tR<|ARun.qv (q_addw J J) J<|rM J J<|rN<|ATodo.stop<|?_
          obtain rfl := Option.some.inj h
          exact hJ1 _ _ J<|ImpX.lq [0,0] J J J
    · refine have h := iteF hc h; ATodo.exit J<|have h := outL h hA1; tS<|tS<|ATodo.cut (fun σ'=>∃ (c13 : Bool),Q_track_alarm_j3 p0x0 n6 n7 c13 = some r ∧ σ' = ⟨67,[(0,.rptr [.str p0x0.device_,.str p0x0.rule_,lE2 p0x0.done_,I p0x0.state_,I p0x0.shelved_.From,I p0x0.shelved_.To]),(4,.ptr b1 0),(5,.ptr b2 0),(59,.bool c13)],[(b1,.cells [.str [],.str [],I (0 : Int),I (0 : Int),I (0 : Int),I (0 : Int)]),(b2,.cells [.str p0x0.device_,.str p0x0.rule_,I p0x0.state_,I n6,I n7,I (0 : Int)])]⟩) ?_ ?_
      · refine tR<|rM J J<|ARun.qv (q_nilCheck_rptr J) J<|ARun.qv (n_field_rptr J J) J<|ARun.qv (n_field_rptr J J) J<|ARun.qv (q_load_rptr J J J) J<|rM J J<|ARun.qv (q_leq J J) J<|rM J J<|ARun.guard_dt J J J (fun hc=>?_) (fun hc=>?_)
        · rw [andTd hc] at h
          exact rM J J<|rY J J J<|rM J J<|rY J J J<|ARun.qv (q_nilCheck_rptr J) J<|rY J J J<|ARun.qv (n_field_rptr J J) J<|rY J J J<|ARun.qv (n_field_rptr J J) J<|rY J J J<|ARun.qv (q_load_rptr J J J) J<|rY J J J<|ARun.qv (q_lss J J) J<|rT J J J<|rN<|ATodo.stop<|ImpX.lq [0,0] ⟨decide (p1x0 < p0x0.shelved_.To),h,J⟩ J J
        · rw [andFd hc] at h
          exact rG J J J J<|rG J J J J<|rG J J J J<|rG J J J J<|rG J J J J<|rG J J J J<|rE J J J<|rN<|ATodo.stop<|ImpX.lq [0,0] ⟨false,h,J⟩ J J
      · rintro σ' ⟨c13, h, rfl⟩
        unfold Q_track_alarm_j3 at h
        refine ATodo.cut (fun σ'=>∃ (n14 : Int),Q_track_alarm_j4 p0x0 n6 n7 n14 = some r ∧ σ' = ⟨67,[(4,.ptr b1 0),(5,.ptr b2 0)],[(b1,.cells [.str [],.str [],I (0 : Int),I (0 : Int),I (0 : Int),I (0 : Int)]),(b2,.cells [.str p0x0.device_,.str p0x0.rule_,I p0x0.state_,I n6,I n7,I n14])]⟩) ?_ ?_
        · refine ATodo.cond J (fun hc=>?_) (fun hc=>?_)
          · exact have h := iteT hc h; tR<|rM J J<|ARun.qv (q_nilCheck_rptr J) J<|ARun.qv (n_field_rptr J J) J<|ARun.qv (n_field_rptr J J) J<|ARun.qv (q_load_rptr J J J) J<|rF J J J<|n_store_ptr J J J J .p1 J J<|rN<|ATodo.stop<|ImpX.lq [0,0] ⟨p0x0.shelved_.To,h,J⟩ J J
          · exact have h := iteFb hc h; tK<|ATodo.stop<|ImpX.lq [0,0] ⟨(0 : Int),h,J⟩ J J
        · rintro σ' ⟨n14, h, rfl⟩
          unfold Q_track_alarm_j4 at h
          refine tSR<|ARun.qv (q_load_ptr_all J J .p1 J) J<|n_store_ptr J J J J .p0 J J<|rN<|ATodo.ret<|?_
          obtain rfl := Option.some.inj h
          exact ImpX.here ⟨_,.cons (.all _ _ _ _ _ _ J .p0 TUnder.h TInfo.h J J) .nil,J⟩

theorem Q_AlarmsAt_c [GI : GTab] {p0x0 : List Signal} {p1x0 : Int} {r : (List Alarm)} (h : Q_AlarmsAt p0x0 p1x0 = some r) : ACall Tryz.prog 29 [lE2 p0x0,I p1x0] [] (T1 (fun d_0=>[(d_0,aE8 r)]) (fun d_0=>.sl 6 d_0 0 r.length)) := by
  unfold Q_AlarmsAt at h
  refine ACall.lessH ?_
  refine ACall.bodyN Tryz.func29 J Tryz.ntmps29 Tryz.results29 J J ?_
  refine tSR<|rA J J<|rN<|tSR<|rA J J<|rN<|tSR<|rM J J<|rM J J<|bndE h fun v1 e1 h=>t_call1 J (Q_tracksAt_c e1) (CoL.refl _) .nil (fun _=>J) J fun b2=>rM J J<|rX J J J<|rX J J J<|rA J J<|rA J J<|rN<|tS<|tSR<|rM J J<|ARun.qv (t_len J) J<|rM J J<|rN<|ATodo.block<|ATodo.loopI (fun x : (List Alarm) × Int=>Q_AlarmsAt_b1 p1x0 v1 x.1 x.2) (fun x σ'=>∃ (b6 : Bk),σ' = ⟨40,[(1,I p1x0),(5,.sl 6 b6 0 x.1.length),(17,lE7 v1.1),(18,I (v1.1.length : Int)),(19,I x.2)],[(b6,aE8 x.1)]⟩) h ?_ ?_
  · exact ImpX.arr (s := 5) 6 J fun b9=>ImpX.lq [0] ⟨b9,J⟩ J J
  · intro x z1 σ' J1 hmk h hJ1 hA1
    obtain ⟨l7, n8⟩ := x
    obtain ⟨b6, rfl⟩ := hmk
    replace h : Q_AlarmsAt_b1 p1x0 v1 l7 n8 = some z1 := h
    unfold Q_AlarmsAt_b1 at h
    refine tSR<|ARun.qv (q_lss J J) J<|rN<|tS<|ATodo.cond_d J (fun hc=>?_) (fun hc=>?_)
    · refine have h := iteT hc h; tK<|tS<|ATodo.block<|tSR<|bndE h fun v10 e2 h=>ARun.qv (t_index J J J e2 J J) J<|ARun.qv (q_load_rptr J J J) J<|rA J J<|rN<|tSR<|rM J J<|rM J J<|bndE h fun v11 e3 h=>r_callp J (Q_track_alarm_c e3) (CoL.refl _) J<|n_alloc J J J J fun b12=>n_store_ptr J J J J .p0 J J<|rN<|tS<|ATodo.cut (fun σ'=>∃ (c13 : Bool),Q_AlarmsAt_j1 l7 n8 v11 c13 = some z1 ∧ σ' = ⟨40,[(1,I p1x0),(5,.sl 6 b6 0 l7.length),(10,.ptr b12 0),(17,lE7 v1.1),(18,I (v1.1.length : Int)),(19,I n8),(33,.bool c13)],[(b6,aE8 l7),(b12,.cells [.str v11.Device,.str v11.Rule,I v11.State,I v11.Since,I v11.Raised,I v11.Shelved])]⟩) ?_ ?_
      · refine tR<|rF J J J<|rL J J .p0 J J<|ARun.qv (q_neq J J) J<|rM J J<|ARun.guard_df J J J (fun hc=>?_) (fun hc=>?_)
        · rw [orFd hc] at h
          exact rF J J J<|rY J J J<|rL J J .p0 J J<|rY J J J<|ARun.qv (q_gtr J J) J<|rE J J J<|rN<|ATodo.stop<|ImpX.lq [1,0] ⟨decide ((0 : Int) < v11.Shelved),h,J⟩ J J
        · rw [orTd hc] at h
          exact rG J J J J<|rG J J J J<|rT J J J<|rN<|ATodo.stop<|ImpX.lq [1,0] ⟨true,h,J⟩ J J
      · rintro σ' ⟨c13, h, rfl⟩
        unfold Q_AlarmsAt_j1 at h
        refine ATodo.cut (fun σ'=>∃ (b14 : Bk) (l15 : List Alarm),Q_AlarmsAt_j2 n8 l15 = some z1 ∧ σ' = ⟨40,[(1,I p1x0),(5,.sl 6 b14 0 l15.length),(17,lE7 v1.1),(18,I (v1.1.length : Int)),(19,I n8)],[(b14,aE8 l15)]⟩) ?_ ?_
        · refine ATodo.cond J (fun hc=>?_) (fun hc=>?_)
          · exact have h := iteT hc h; tR<|rM J J<|ARun.qv (q_load_ptr_all J J .p1 J) J<|n_buildSliceL (xs := ([v11] : List Alarm).map Alarm.av) J J J J J J<|bndE h fun l16 e4 h=>t_append (g := Alarm.av) J J J J J J J J (.list _) e4 (fun _=>.p0) J fun b17=>rA J J<|rN<|ATodo.stop<|ImpX.lq [0] ⟨b17,l16,h,J⟩ J J
          · exact have h := iteFb hc h; tK<|ATodo.stop<|ImpX.lq [0] ⟨b6,l7,h,J⟩ J J
        · rintro σ' ⟨b14, l15, h, rfl⟩
          unfold Q_AlarmsAt_j2 at h
          refine ATodo.blk<|tR<|ARun.qv (q_addw J J) J<|rM J J<|rN<|ATodo.stop<|?_
          obtain rfl := Option.some.inj h
          exact hJ1 _ _ J<|ImpX.lq [0] ⟨b14,J⟩ J J
    · refine have h := iteF hc h; ATodo.exit J<|have h := outL h hA1; tSR<|rM J J<|rA J J<|rN<|ATodo.ret<|?_
      obtain rfl := Option.some.inj h
      exact ImpX.here ⟨_,.cons (.tmp _ _ J) .nil,_,.cons .p0 .nil,⟨b6,J,J⟩⟩

theorem slices_Equal_Alarm_Alarm_c [GI : GTab] {p0x0 : List Alarm} {p1x0 : List Alarm} {r : Bool} (h : slices_Equal_Alarm_Alarm p0x0 p1x0 = some r) : Pu Tryz.prog 28 [lE8 p0x0,lE8 p1x0] (.bool r) := by
  unfold slices_Equal_Alarm_Alarm at h
  refine ACall.bodyN Tryz.func28 J Tryz.ntmps28 Tryz.results28 J J ?_
  refine tSR<|rA J J<|rN<|tS<|tSR<|rM J J<|ARun.qv (t_len J) J<|rM J J<|ARun.qv (t_len J) J<|ARun.qv (q_neq J J) J<|rN<|ATodo.cond_d J (fun hc=>?_) (fun hc=>?_)
  · refine have h := iteT hc h; tSR<|rA J J<|rN<|ATodo.ret<|?_
    obtain rfl := Option.some.inj h
    exact ImpX.here ⟨_,.cons (.tmp _ _ J) .nil,J⟩
  · refine have h := iteF hc h; tK<|tS<|tSR<|rM J J<|ARun.qv (t_len J) J<|rM J J<|rN<|ATodo.block<|ATodo.loopI (fun x : Int=>slices_Equal_Alarm_Alarm_b1 p0x0 p1x0 x) (fun x σ'=>σ' = ⟨26,[(0,lE8 p0x0),(1,lE8 p1x0),(12,I (p0x0.length : Int)),(13,I x)],[]⟩) h ?_ ?_
    · exact ImpX.lq [] J J J
    · intro n2 z1 σ' J1 hmk h hJ1 hA1
      obtain rfl := hmk
      replace h : slices_Equal_Alarm_Alarm_b1 p0x0 p1x0 n2 = some z1 := h
      unfold slices_Equal_Alarm_Alarm_b1 at h
      refine tSR<|ARun.qv (q_lss J J) J<|rN<|tS<|ATodo.cond_d J (fun hc=>?_) (fun hc=>?_)
      · refine have h := iteT hc h; tK<|tS<|ATodo.block<|tSR<|rM J J<|rA J J<|rN<|tS<|ATodo.regionM (id := 6) (A := [0,0,3,7,0,0,48,112,255]) 9 mixed J (by kernel_rfl) (by kernel_rfl)<|AM.qv (q_move J) J<|AM.qv (q_move J) J<|bndE h fun v3 e1 h=>AM.qv (t_index J J J e1 J J) J<|AM.qv (q_load_rptr_agg J J J) J<|AM.qv (q_move J) J<|AM.qv (q_move J) J<|bndE h fun v4 e2 h=>AM.qv (t_index J J J e2 J J) J<|AM.qv (q_load_rptr_agg J J J) J<|AM.qv (t_tne (g := Alarm.av) (X := v3) (Y := v4) J J J J J) J<|AM.nil<|rN<|ATodo.cond_d J (fun hc=>?_) (fun hc=>?_)
        · refine have h := iteT hc h; tSR<|rA J J<|rN<|ATodo.ret<|have h := outL h hA1; ?_
          obtain rfl := Option.some.inj h
          exact ImpX.here ⟨_,.cons (.tmp _ _ J) .nil,J⟩
        · refine have h := iteF hc h; tK<|ATodo.blk<|tR<|ARun.qv (q_addw J J) J<|rM J J<|rN<|ATodo.stop<|?_
          obtain rfl := Option.some.inj h
          exact hJ1 _ _ J<|ImpX.lq [] J J J
      · refine have h := iteF hc h; ATodo.exit J<|have h := outL h hA1; tSR<|rA J J<|rN<|ATodo.ret<|?_
        obtain rfl := Option.some.inj h
        exact ImpX.here ⟨_,.cons (.tmp _ _ J) .nil,J⟩

theorem alarm_nameFault_c [GI : GTab] {p0x0 : List Signal} {p1x0 : Str} {p2x0 : Str} {r : Int} (h : alarm_nameFault p0x0 p1x0 p2x0 = some r) : Pu Tryz.prog 97 [lE2 p0x0,.str p1x0,.str p2x0] (I r) := by
  unfold alarm_nameFault at h
  refine ACall.bodyN Tryz.func97 J Tryz.ntmps97 Tryz.results97 J J ?_
  refine tSR<|rA J J<|rN<|tS<|tSR<|rM J J<|bndE h fun v1 e1 h=>r_callp J (alarm_CheckSignals_c e1) (CoL.refl _) J<|rA J J<|rN<|tSR<|rM J J<|ARun.qv (q_neq J J) J<|rN<|ATodo.cond_d J (fun hc=>?_) (fun hc=>?_)
  · refine have h := iteT hc h; tSR<|rM J J<|rA J J<|rN<|ATodo.ret<|?_
    obtain rfl := Option.some.inj h
    exact ImpX.here ⟨_,.cons (.tmp _ _ J) .nil,J⟩
  · refine have h := iteF hc h; tK<|tS<|tS<|ATodo.cut (fun σ'=>∃ (c2 : Bool),alarm_nameFault_j1 c2 = some r ∧ σ' = ⟨21,[(20,.bool c2)],[]⟩) ?_ ?_
    · refine tR<|rM J J<|bndE h fun v3 e2 h=>r_callp J (base_Key_c e2) (CoL.refl _) J<|ARun.qv (q_not J) J<|rM J J<|ARun.guard J J J (fun hc=>?_) (fun hc=>?_)
      · exact have h := iteFb hc h; rM J J<|rY J J J<|bndE h fun v4 e3 h=>r_callp J (base_Key_c e3) (CoL.refl _) J<|rY J J J<|ARun.qv (q_not J) J<|rE J J J<|rN<|ATodo.stop<|ImpX.lq [] ⟨!v4,h,J⟩ J J
      · exact have h := iteT hc h; rG J J J J<|rG J J J J<|rT J J J<|rN<|ATodo.stop<|ImpX.lq [] ⟨true,h,J⟩ J J
    · rintro σ' ⟨c2, h, rfl⟩
      unfold alarm_nameFault_j1 at h
      refine ATodo.cond J (fun hc=>?_) (fun hc=>?_)
      · refine have h := iteT hc h; tSR<|rA J J<|rN<|ATodo.ret<|?_
        obtain rfl := Option.some.inj h
        exact ImpX.here ⟨_,.cons (.tmp _ _ J) .nil,J⟩
      · refine have h := iteFb hc h; tK<|tSR<|rA J J<|rN<|ATodo.ret<|?_
        obtain rfl := Option.some.inj h
        exact ImpX.here ⟨_,.cons (.tmp _ _ J) .nil,J⟩

theorem alarm_AlarmOf_c [GI : GTab] {p0x0 : List Signal} {p1x0 : Str} {p2x0 : Str} {p3x0 : Int} {r : Alarm × Int} (h : alarm_AlarmOf p0x0 p1x0 p2x0 p3x0 = some r) : Pu Tryz.prog 30 [lE2 p0x0,.str p1x0,.str p2x0,I p3x0] (.tup [Alarm.av r.1,I r.2]) := by
  unfold alarm_AlarmOf at h
  refine ACall.bodyN Tryz.func30 J Tryz.ntmps30 Tryz.results30 J J ?_
  refine tSR<|n_alloc J J J J fun b1=>rA J J<|rN<|tS<|tSR<|rM J J<|rM J J<|rM J J<|bndE h fun v2 e1 h=>r_callp J (alarm_nameFault_c e1) (CoL.refl _) J<|rA J J<|rN<|tSR<|rM J J<|ARun.qv (q_neq J J) J<|rN<|ATodo.cond_d J (fun hc=>?_) (fun hc=>?_)
  · refine have h := iteT hc h; tSR<|ARun.qv (n_build J J J J J) J<|rM J J<|n_store_ptr J J J J .p0 J J<|rA J J<|rN<|ATodo.ret<|?_
    obtain rfl := Option.some.inj h
    exact ImpX.here ⟨_,.cons (.all _ _ _ _ _ _ J .p0 TUnder.h TInfo.h J J) (.cons (.tmp _ _ J) .nil),J⟩
  · refine have h := iteF hc h; tK<|tS<|tSR<|rM J J<|r_callp J (base_Moment_c J) (CoL.refl _) J<|ARun.qv (q_not J) J<|rN<|ATodo.cond J (fun hc=>?_) (fun hc=>?_)
    · refine have h := iteT hc h; tSR<|ARun.qv (n_build J J J J J) J<|n_store_ptr J J J J .p0 J J<|rA J J<|rN<|ATodo.ret<|?_
      obtain rfl := Option.some.inj h
      exact ImpX.here ⟨_,.cons (.all _ _ _ _ _ _ J .p0 TUnder.h TInfo.h J J) (.cons (.tmp _ _ J) .nil),J⟩
    · refine have h := iteFb hc h; tK<|tSR<|rM J J<|rM J J<|bndE h fun v3 e2 h=>t_call6 J (alarm_at_c e2) (CoL.refl _) .nil (fun _ _ _ _ _ _=>J) J fun b4 b5 b6 b7 bo8 bs9=>ARun.qv (q_nilCheck_ptr J) J<|rF J J J<|rL J J .p0 J J<|rM J J<|rM J J<|ARun.qv (n_build J J J J J) J<|optE h (fun e3 h=>?_) (fun n10 e3 h=>?_)
      · refine ARun.qv (t_lookupA0 (gk := Alarm_name.av) (gv := (pA bo8)) (M := v3.all_) (key := (⟨p1x0,p2x0⟩ : Alarm_name)) J J .p1 J e3) J<|rA J J<|rN<|tS<|tSR<|rM J J<|ARun.qv (q_ppneql J J) J<|rN<|ATodo.cond_t J<|tSR<|rM J J<|rM J J<|ARun.qv (n_build J J J J J) J<|n_store_ptr J J J J .p4 J J<|rA J J<|rN<|ATodo.ret<|?_
        obtain rfl := Option.some.inj h
        exact ImpX.here ⟨_,.cons (.all _ _ _ _ _ _ J .p4 TUnder.h TInfo.h J J) (.cons (.tmp _ _ J) .nil),J⟩
      · refine ARun.qv (t_lookupA1 (gk := Alarm_name.av) (gv := (pA bo8)) (M := v3.all_) (key := (⟨p1x0,p2x0⟩ : Alarm_name)) J J .p1 e3) J<|rA J J<|rN<|tS<|tSR<|rM J J<|ARun.qv (q_ppeql J J) J<|rN<|ATodo.cond_f J<|tK<|tSR<|rM J J<|rM J J<|bndE h fun v11 e4 h=>r_callpB J (alarm_life_view_c J) (.cons (CoB.araP' (bp := b7) (kb := kE0) (bs := bs9) (M := v3.ar0) KB0 e4 .p3) (.cons (.co (.refl _)) .nil)) J J<|rM J J<|rX J J J<|rX J J J<|n_alloc J J J J fun b12=>n_store_ptr J J J J .p0 J J<|rA J J<|rN<|tSR<|ARun.qv (q_load_ptr_all J J .p0 J) J<|n_store_ptr J J J J .p5 J J<|rA J J<|rN<|ATodo.ret<|?_
        obtain rfl := Option.some.inj h
        exact ImpX.here ⟨_,.cons (.all _ _ _ _ _ _ J .p5 TUnder.h TInfo.h J J) (.cons (.tmp _ _ J) .nil),J⟩

theorem Q_KeyFault_c {p0x0 : Str} {r : Int} (h : Q_KeyFault p0x0 = some r) : Pu Tryz.prog 31 [.str p0x0] (I r) := by
  unfold Q_KeyFault at h
  refine ACall.bodyN Tryz.func31 J Tryz.ntmps31 Tryz.results31 J J ?_
  refine tSR<|rA J J<|rN<|tS<|tSR<|rM J J<|bndE h fun v1 e1 h=>r_callp J (Q_Key_c e1) (CoL.refl _) J<|ARun.qv (q_not J) J<|rN<|ATodo.cond J (fun hc=>?_) (fun hc=>?_)
  · refine have h := iteT hc h; tSR<|rA J J<|rN<|ATodo.ret<|?_
    obtain rfl := Option.some.inj h
    exact ImpX.here ⟨_,.cons (.tmp _ _ J) .nil,J⟩
  · refine have h := iteFb hc h; tK<|tSR<|rA J J<|rN<|ATodo.ret<|?_
    obtain rfl := Option.some.inj h
    exact ImpX.here ⟨_,.cons (.tmp _ _ J) .nil,J⟩

theorem L_alarmed_c [GI : GTab] {r : Bool} (h : L_alarmed = some r) : Pu Tryz.prog 32 [] (.bool r) := by
  unfold L_alarmed at h
  refine ACall.bodyN Tryz.func32 J Tryz.ntmps32 Tryz.results32 J J ?_
  refine tSR<|rA J J<|rN<|tSR<|ARun.qv (n_build J J J J J) J<|n_buildSliceL (xs := ([(⟨(1 : Int),(1 : Int),([100] : Str),([114] : Str),[],(0 : Int)⟩ : Signal)]).map Signal.av) J J J J J J<|bndE h fun v1 e1 h=>r_callp J (alarm_AlarmOf_c e1) (CoL.refl _) J<|rM J J<|rX J J J<|rX J J J<|n_alloc J J J J fun b2=>n_store_ptr J J J J .p0 J J<|rA J J<|rN<|tS<|ATodo.cut (fun σ'=>∃ (c3 : Bool),L_alarmed_j1 c3 = some r ∧ σ' = ⟨16,[(0,.bool c3)],[]⟩) ?_ ?_
  · refine tR<|rM J J<|ARun.qv (q_eql J J) J<|rM J J<|ARun.guard_dt J J J (fun hc=>?_) (fun hc=>?_)
    · rw [andTd hc] at h
      exact rF J J J<|rY J J J<|rL J J .p0 J J<|rY J J J<|ARun.qv (q_eql J J) J<|rT J J J<|rA J J<|rN<|ATodo.stop<|ImpX.lq [] ⟨decide (v1.1.State = (1 : Int)),h,J⟩ J J
    · rw [andFd hc] at h
      exact rG J J J J<|rG J J J J<|rE J J J<|rA J J<|rN<|ATodo.stop<|ImpX.lq [] ⟨false,h,J⟩ J J
  · rintro σ' ⟨c3, h, rfl⟩
    unfold L_alarmed_j1 at h
    refine ATodo.ret<|?_
    obtain rfl := Option.some.inj h
    exact ImpX.here ⟨_,.cons (.tmp _ _ J) .nil,J⟩

theorem Q_AlarmAt_c [GI : GTab] {p0x0 : List Signal} {p1x0 : Str} {p2x0 : Str} {p3x0 : Int} {r : Alarm} (h : Q_AlarmAt p0x0 p1x0 p2x0 p3x0 = some r) : Pu Tryz.prog 33 [lE2 p0x0,.str p1x0,.str p2x0,I p3x0] (Alarm.av r) := by
  unfold Q_AlarmAt at h
  refine ACall.bodyN Tryz.func33 J Tryz.ntmps33 Tryz.results33 J J ?_
  refine tSR<|n_alloc J J J J fun b1=>rN<|tSR<|rM J J<|rM J J<|bndE h fun v2 e1 h=>t_call1 J (Q_tracksAt_c e1) (CoL.refl _) .nil (fun _=>J) J fun b3=>rM J J<|rX J J J<|rX J J J<|rA J J<|rA J J<|rN<|tS<|tSR<|rM J J<|ARun.qv (t_len J) J<|rM J J<|rN<|ATodo.block<|ATodo.loopI (fun x : Int=>Q_AlarmAt_b1 p1x0 p2x0 p3x0 v2 x) (fun x σ'=>σ' = ⟨46,[(1,.str p1x0),(2,.str p2x0),(3,I p3x0),(8,.ptr b1 0),(19,lE7 v2.1),(20,I (v2.1.length : Int)),(21,I x)],[(b1,.cells [.str [],.str [],I (0 : Int),I (0 : Int),I (0 : Int),I (0 : Int)])]⟩) h ?_ ?_
  · exact ImpX.lq [1] J J J
  · intro n5 z1 σ' J1 hmk h hJ1 hA1
    obtain rfl := hmk
    replace h : Q_AlarmAt_b1 p1x0 p2x0 p3x0 v2 n5 = some z1 := h
    unfold Q_AlarmAt_b1 at h
    refine tSR<|ARun.qv (q_lss J J) J<|rN<|tS<|ATodo.cond_d J (fun hc=>?_) (fun hc=>?_)
    · refine have h := iteT hc h; tK<|tS<|ATodo.block<|tSR<|bndE h fun v6 e2 h=>ARun.qv (t_index J J J e2 J J) J<|ARun.qv (q_load_rptr J J J) J<|rA J J<|rN<|tS<|ATodo.cut (fun σ'=>∃ (c7 : Bool),Q_AlarmAt_j1 p3x0 n5 v6 c7 = some z1 ∧ σ' = ⟨46,[(1,.str p1x0),(2,.str p2x0),(3,I p3x0),(8,.ptr b1 0),(12,.rptr [.str v6.device_,.str v6.rule_,lE2 v6.done_,I v6.state_,I v6.shelved_.From,I v6.shelved_.To]),(19,lE7 v2.1),(20,I (v2.1.length : Int)),(21,I n5),(38,.bool c7)],[(b1,.cells [.str [],.str [],I (0 : Int),I (0 : Int),I (0 : Int),I (0 : Int)])]⟩) ?_ ?_
      · refine tR<|rM J J<|ARun.qv (q_nilCheck_rptr J) J<|ARun.qv (n_field_rptr J J) J<|ARun.qv (q_load_rptr J J J) J<|rM J J<|ARun.qv (q_seq J J) J<|rM J J<|ARun.guard_dt J J J (fun hc=>?_) (fun hc=>?_)
        · rw [andTd hc] at h
          exact rM J J<|rY J J J<|ARun.qv (q_nilCheck_rptr J) J<|rY J J J<|ARun.qv (n_field_rptr J J) J<|rY J J J<|ARun.qv (q_load_rptr J J J) J<|rY J J J<|rM J J<|rY J J J<|ARun.qv (q_seq J J) J<|rT J J J<|rN<|ATodo.stop<|ImpX.lq [0] ⟨decide (v6.rule_ = p2x0),h,J⟩ J J
        · rw [andFd hc] at h
          exact rG J J J J<|rG J J J J<|rG J J J J<|rG J J J J<|rG J J J J<|rE J J J<|rN<|ATodo.stop<|ImpX.lq [0] ⟨false,h,J⟩ J J
      · rintro σ' ⟨c7, h, rfl⟩
        unfold Q_AlarmAt_j1 at h
        refine ATodo.cond J (fun hc=>?_) (fun hc=>?_)
        · refine have h := iteT hc h; tSR<|rM J J<|rM J J<|bndE h fun v8 e3 h=>r_callp J (Q_track_alarm_c e3) (CoL.refl _) J<|n_store_ptr J J J J .p0 J J<|rN<|ATodo.ret<|have h := outL h hA1; ?_
          obtain rfl := Option.some.inj h
          exact ImpX.here ⟨_,.cons (.all _ _ _ _ _ _ J .p0 TUnder.h TInfo.h J J) .nil,J⟩
        · refine have h := iteFb hc h; tK<|ATodo.blk<|tR<|ARun.qv (q_addw J J) J<|rM J J<|rN<|ATodo.stop<|?_
          obtain rfl := Option.some.inj h
          exact hJ1 _ _ J<|ImpX.lq [0] J J J
    · refine have h := iteF hc h; ATodo.exit J<|have h := outL h hA1; tSR<|rM J J<|rM J J<|ARun.qv (n_build J J J J J) J<|n_store_ptr J J J J .p0 J J<|rN<|ATodo.ret<|?_
      obtain rfl := Option.some.inj h
      exact ImpX.here ⟨_,.cons (.all _ _ _ _ _ _ J .p0 TUnder.h TInfo.h J J) .nil,J⟩

theorem L_SignalsFollowed_c {p0x0 : List Int} {r : Bool} (h : L_SignalsFollowed p0x0 = some r) : Pu Tryz.prog 3 [lE0 p0x0] (.bool r) := by
  unfold L_SignalsFollowed at h
  refine ACall.bodyN Tryz.func3 J Tryz.ntmps3 Tryz.results3 J J ?_
  refine tSR<|rA J J<|rN<|tSR<|rM J J<|ARun.qv (n_build J J J J J) J<|n_box J J J J fun b1=>rA J J<|rN<|tSR<|rM J J<|rM J J<|bndE h fun v2 e1 h=>t_call0 J (Stream_Range_c e1) (CoL.refl _) (.cons .p0 .nil) J J<|bndE h fun v3 e2 h=>t_call1 J (Stream_Signals_c e2) (CoL.refl _) (.cons .p0 .nil) (fun _=>J) J fun b4=>rM J J<|bndE h fun v5 e3 h=>t_call1 J (Stream_Firings_c e3) (CoL.refl _) (.cons .p0 .nil) (fun _=>J) J fun b6=>rM J J<|bndE h fun v7 e4 h=>t_call0 J (Stream_Time_c e4) (CoL.refl _) (.cons .p0 .nil) J J<|rM J J<|n_buildSliceL (xs := ([([100,97] : Str),([100,97] : Str),([100,98] : Str),([65] : Str)]).map AV.str) J J J J J J<|bndE h fun v8 e5 h=>t_call0 J (Stream_Some_c e5) (CoL.refl _) (.cons .p0 .nil) J J<|rM J J<|n_buildSliceL (xs := ([([114,97] : Str),([114,97] : Str),([114,98] : Str),([] : Str)]).map AV.str) J J J J J J<|bndE h fun v9 e6 h=>t_call0 J (Stream_Some_c e6) (CoL.refl _) (.cons .p0 .nil) J J<|rA J J<|rA J J<|rA J J<|rA J J<|rA J J<|rN<|tSR<|rM J J<|bndE h fun v10 e7 h=>t_callL1 J (slices_Clone_Signal_Signal_c e7) .nil (.cons (CoB.arrT .p2) .nil) (fun _=>J) (fun _=>J) (fun _=>(.cons (NoS.arrT (fun _=>J)) .nil)) J fun b11=>rA J J<|rN<|tS<|tSR<|rM J J<|bndE h fun v12 e8 h=>t_call0 J (Stream_Next_c e8) (CoL.refl _) (.cons .p1 .nil) J J<|rN<|ATodo.block<|tSR<|ARun.qv (q_eql J J) J<|rA J J<|rN<|ATodo.cut (fun σ'=>∃ (l13 : List Signal),L_SignalsFollowed_j1 v3 v5 v7 v8 v9 l13 = some r ∧ σ' = ⟨201,[(4,.sl 6 b4 0 v3.1.length),(5,.sl 4 b6 0 v5.1.length),(6,I v7.1),(7,.str v8.1),(8,.str v9.1),(9,lE2 l13)],[(b4,fE2 v3.1),(b6,aE3 v5.1)]⟩) ?_ ?_
  · refine ATodo.cond_d J (fun hc=>?_) (fun hc=>?_)
    · exact have h := iteT hc h; tR<|rM J J<|rM J J<|bndE h fun v14 e9 h=>t_call0 J (Stream_Range_c e9) (CoL.refl _) (.cons .p0 .nil) J J<|rM J J<|bndE h fun v15 e10 h=>t_call0 J (Stream_Flip_c e10) (CoL.refl _) (.cons .p0 .nil) J J<|bndE h fun v16 e11 h=>t_call1 J (Stream_Signals_c e11) (CoL.refl _) (.cons .p0 .nil) (fun _=>J) J fun b17=>rA J J<|rN<|ATodo.stop<|ImpX.freeze .p4<|ImpX.freeze .p1<|ImpX.co (s := 9) J (Co.froT .p1)<|ImpX.lq [4,3] ⟨v16.1,h,J⟩ J J
    · refine have h := iteF hc h; tSR<|ARun.qv (q_eql J J) J<|rA J J<|rN<|ATodo.cut (fun σ'=>∃ (l18 : List Signal),L_SignalsFollowed_j2 v3 v5 v7 v8 v9 l18 = some r ∧ σ' = ⟨201,[(4,.sl 6 b4 0 v3.1.length),(5,.sl 4 b6 0 v5.1.length),(6,I v7.1),(7,.str v8.1),(8,.str v9.1),(9,lE2 l18)],[(b4,fE2 v3.1),(b6,aE3 v5.1)]⟩) ?_ ?_
      · refine ATodo.cond_d J (fun hc=>?_) (fun hc=>?_)
        · exact have h := iteT hc h; tR<|rM J J<|rM J J<|rM J J<|ARun.qv (t_len_sl J) J<|bndE h fun v19 e12 h=>t_call0 J (Stream_Range_c e12) (CoL.refl _) (.cons .p0 .nil) J J<|bndE h fun l20 e13 h=>ARun.qv (t_slice_sl J J .none (.some _ _ _ J) J J e13) J<|rA J J<|rN<|ATodo.stop<|ImpX.freeze .p3<|ImpX.co (s := 9) J (Co.partT e13 .p3)<|ImpX.lq [3,2] ⟨l20,h,J⟩ J J
        · exact have h := iteF hc h; tK<|ATodo.stop<|ImpX.freeze .p3<|ImpX.freeze .p1<|ImpX.co (s := 9) J (Co.froT .p1)<|ImpX.lq [3,2] ⟨v10,h,J⟩ J J
      · rintro σ' ⟨l18, h, rfl⟩
        unfold L_SignalsFollowed_j2 at h
        exact ATodo.stop<|ImpX.lq [0,0] ⟨l18,h,J⟩ J J
  · rintro σ' ⟨l13, h, rfl⟩
    unfold L_SignalsFollowed_j1 at h
    refine ATodo.blk<|tSR<|rM J J<|bndE h fun v21 e14 h=>r_callp J (Q_SignalsFault_c e14) (.cons (Co.froT .p0) .nil) J<|rA J J<|rN<|tS<|tSR<|rM J J<|bndE h fun v22 e15 h=>r_callp J (alarm_CheckSignals_c e15) (.cons (Co.froT .p0) .nil) J<|rM J J<|ARun.qv (q_neq J J) J<|rN<|ATodo.cond_d J (fun hc=>?_) (fun hc=>?_)
    · refine have h := iteT hc h; tSR<|rA J J<|rN<|ATodo.ret<|?_
      obtain rfl := Option.some.inj h
      exact ImpX.here ⟨_,.cons (.tmp _ _ J) .nil,J⟩
    · refine have h := iteF hc h; tK<|tSR<|rM J J<|rM J J<|bndE h fun v23 e16 h=>t_call1 J (alarm_Merge_c e16) (.cons (Co.froT .p0) (.cons (.refl _) .nil)) .nil (fun _=>J) J fun b24=>rM J J<|rX J J J<|rX J J J<|rA J J<|rA J J<|rN<|tSR<|rM J J<|rM J J<|bndE h fun v25 e17 h=>r_callp J (Q_SignalsFault_c e17) (CoL.refl _) J<|n_buildSliceL (xs := ([v21,v25] : List Int).map I) J J J J J J<|bndE h fun v26 e18 h=>r_callp J (cmp_Or_Errno_c e18) (CoL.refl _) J<|rA J J<|rN<|tSR<|rA J J<|rN<|tS<|tSR<|rM J J<|ARun.qv (q_eql J J) J<|rN<|ATodo.cut (fun σ'=>∃ (b28 : Bk) (n27 : Int) (l29 : List Signal),L_SignalsFollowed_j3 v3 v5 v7 v8 v9 v21 v23 n27 l29 = some r ∧ σ' = ⟨201,[(4,.sl 6 b4 0 v3.1.length),(5,.sl 4 b6 0 v5.1.length),(6,I v7.1),(7,.str v8.1),(8,.str v9.1),(10,I v21),(11,.sl 6 b24 0 v23.1.length),(12,I v23.2),(13,I n27),(14,.sl 6 b28 0 l29.length)],[(b4,fE2 v3.1),(b6,aE3 v5.1),(b24,aE2 v23.1),(b28,aE2 l29)]⟩) ?_ ?_
      · refine ATodo.cond_d J (fun hc=>?_) (fun hc=>?_)
        · exact have h := iteT hc h; tR<|rM J J<|rM J J<|bndE h fun v30 e19 h=>t_call1 J (Q_SignalsMerged_c e19) (.cons (Co.froT .p1) (.cons (.refl _) .nil)) .nil (fun _=>J) J fun b31=>rM J J<|rX J J J<|rX J J J<|rA J J<|rA J J<|rN<|ATodo.stop<|ImpX.lq [2,2,1,0] ⟨b31,v30.2,v30.1,h,J⟩ J J
        · exact have h := iteF hc h; tK<|ATodo.stop<|ImpX.arr (s := 14) 6 J fun b32=>ImpX.lq [2,2,1,0] ⟨b32,v26,[],h,J⟩ J J
      · rintro σ' ⟨b28, n27, l29, h, rfl⟩
        unfold L_SignalsFollowed_j3 at h
        refine tS<|tS<|ATodo.cut (fun σ'=>∃ (c33 : Bool),L_SignalsFollowed_j4 v3 v5 v7 v8 v9 v21 c33 = some r ∧ σ' = ⟨201,[(4,.sl 6 b4 0 v3.1.length),(5,.sl 4 b6 0 v5.1.length),(6,I v7.1),(7,.str v8.1),(8,.str v9.1),(10,I v21),(92,.bool c33)],[(b4,fE2 v3.1),(b6,aE3 v5.1)]⟩) ?_ ?_
        · refine tR<|rM J J<|rM J J<|ARun.qv (q_neq J J) J<|rM J J<|ARun.guard_df J J J (fun hc=>?_) (fun hc=>?_)
          · exact have h := iteF hc h; rM J J<|rY J J J<|rM J J<|rY J J J<|bndE h fun v34 e20 h=>r_callpB J (slices_Equal_Signal_Signal_c e20) (.cons (CoB.arrT .p2) (.cons (CoB.arrT .p3) .nil)) J J<|rY J J J<|ARun.qv (q_not J) J<|rE J J J<|rN<|ATodo.stop<|ImpX.lq [0,0] ⟨!v34,h,J⟩ J J
          · exact have h := iteT hc h; rG J J J J<|rG J J J J<|rG J J J J<|rT J J J<|rN<|ATodo.stop<|ImpX.lq [0,0] ⟨true,h,J⟩ J J
        · rintro σ' ⟨c33, h, rfl⟩
          unfold L_SignalsFollowed_j4 at h
          refine ATodo.cond J (fun hc=>?_) (fun hc=>?_)
          · refine have h := iteT hc h; tSR<|rA J J<|rN<|ATodo.ret<|?_
            obtain rfl := Option.some.inj h
            exact ImpX.here ⟨_,.cons (.tmp _ _ J) .nil,J⟩
          · refine have h := iteFb hc h; tK<|tSR<|rM J J<|bndE h fun v35 e21 h=>t_callL1 J (alarm_FromFirings_c e21) .nil (.cons (CoB.arrT .p1) .nil) (fun _=>J) (fun _=>J) (fun _=>(.cons (NoS.arrT (fun _=>J)) .nil)) J fun b36=>rM J J<|rX J J J<|rX J J J<|rA J J<|rA J J<|rN<|tS<|tSR<|rM J J<|bndE h fun v37 e22 h=>t_callL1 J (Q_SignalsFrom_c e22) .nil (.cons (CoB.arrT .p2) .nil) (fun _=>J) (fun _=>J) (fun _=>(.cons (NoS.arrT (fun _=>J)) .nil)) J fun b38=>rM J J<|rX J J J<|rX J J J<|rA J J<|rA J J<|rN<|tS<|ATodo.cut (fun σ'=>∃ (c39 : Bool),L_SignalsFollowed_j5 v3 v7 v8 v9 v21 c39 = some r ∧ σ' = ⟨201,[(4,.sl 6 b4 0 v3.1.length),(6,I v7.1),(7,.str v8.1),(8,.str v9.1),(10,I v21),(111,.bool c39)],[(b4,fE2 v3.1)]⟩) ?_ ?_
            · refine tR<|rM J J<|rM J J<|ARun.qv (q_neq J J) J<|rM J J<|ARun.guard_df J J J (fun hc=>?_) (fun hc=>?_)
              · exact have h := iteF hc h; rM J J<|rY J J J<|rM J J<|rY J J J<|bndE h fun v40 e23 h=>r_callpB J (slices_Equal_Signal_Signal_c e23) (.cons (CoB.arrT .p1) (.cons (CoB.arrT .p0) .nil)) J J<|rY J J J<|ARun.qv (q_not J) J<|rE J J J<|rN<|ATodo.stop<|ImpX.lq [2] ⟨!v40,h,J⟩ J J
              · exact have h := iteT hc h; rG J J J J<|rG J J J J<|rG J J J J<|rT J J J<|rN<|ATodo.stop<|ImpX.lq [2] ⟨true,h,J⟩ J J
            · rintro σ' ⟨c39, h, rfl⟩
              unfold L_SignalsFollowed_j5 at h
              refine ATodo.cond J (fun hc=>?_) (fun hc=>?_)
              · refine have h := iteT hc h; tSR<|rA J J<|rN<|ATodo.ret<|?_
                obtain rfl := Option.some.inj h
                exact ImpX.here ⟨_,.cons (.tmp _ _ J) .nil,J⟩
              · refine have h := iteFb hc h; tK<|tSR<|rM J J<|bndE h fun v41 e24 h=>t_call1 J (alarm_RefusedOf_c e24) (.cons (Co.froT .p0) .nil) .nil (fun _=>J) J fun b42=>rM J J<|rX J J J<|rX J J J<|rA J J<|rA J J<|rN<|tS<|tS<|ATodo.cut (fun σ'=>∃ (c43 : Bool),L_SignalsFollowed_j6 v3 v7 v8 v9 v21 c43 = some r ∧ σ' = ⟨201,[(4,.sl 6 b4 0 v3.1.length),(6,I v7.1),(7,.str v8.1),(8,.str v9.1),(10,I v21),(130,.bool c43)],[(b4,fE2 v3.1)]⟩) ?_ ?_
                · refine tR<|rM J J<|rM J J<|ARun.qv (q_neq J J) J<|rM J J<|ARun.guard_df J J J (fun hc=>?_) (fun hc=>?_)
                  · refine have h := iteF hc h; rM J J<|rY J J J<|ARun.qv (q_eql J J) J<|rY J J J<|rM J J<|ARun.guard_dt J J J (fun hc=>?_) (fun hc=>?_)
                    · exact have h := iteT hc h; rM J J<|rY J J J<|rM J J<|rY J J J<|bndE h fun v44 e25 h=>t_call1 J (Q_RefusedSignals_c e25) (.cons (Co.froT .p1) .nil) .nil (fun _=>J) J fun b45=>rY J J J<|bndE h fun v46 e26 h=>r_callpB J (slices_Equal_Refused_Refused_c e26) (.cons (CoB.arrT .p1) (.cons (CoB.arrT .p0) .nil)) J J<|rY J J J<|ARun.qv (q_not J) J<|rY J J J<|rT J J J<|rE J J J<|rN<|ATodo.stop<|ImpX.lq [2] ⟨!v46,h,J⟩ J J
                    · exact have h := iteF hc h; rG J J J J<|rG J J J J<|rG J J J J<|rG J J J J<|rY J J J<|rE J J J<|rE J J J<|rN<|ATodo.stop<|ImpX.lq [1] ⟨false,h,J⟩ J J
                  · exact have h := iteT hc h; rG J J J J<|rG J J J J<|ARun.guard_und J J J<|ARun.guard_und J J J<|ARun.guard_und J J J<|ARun.guard_und J J J<|ARun.guard_und J J J<|rG J J J J<|rT J J J<|rN<|ATodo.stop<|ImpX.lq [1] ⟨true,h,J⟩ J J
                · rintro σ' ⟨c43, h, rfl⟩
                  unfold L_SignalsFollowed_j6 at h
                  refine ATodo.cond J (fun hc=>?_) (fun hc=>?_)
                  · refine have h := iteT hc h; tSR<|rA J J<|rN<|ATodo.ret<|?_
                    obtain rfl := Option.some.inj h
                    exact ImpX.here ⟨_,.cons (.tmp _ _ J) .nil,J⟩
                  · refine have h := iteFb hc h; tK<|tSR<|rM J J<|rM J J<|bndE h fun v47 e27 h=>t_call1 J (alarm_Alarms_c e27) (.cons (Co.froT .p0) (.cons (.refl _) .nil)) .nil (fun _=>J) J fun b48=>rM J J<|rX J J J<|rX J J J<|rA J J<|rA J J<|rN<|tSR<|rM J J<|rM J J<|r_callp J (Q_MomentFault_c J) (CoL.refl _) J<|n_buildSliceL (xs := ([v21,(Q_MomentFault v7.1)] : List Int).map I) J J J J J J<|bndE h fun v49 e28 h=>r_callp J (cmp_Or_Errno_c e28) (CoL.refl _) J<|rA J J<|rN<|tS<|tS<|ATodo.cut (fun σ'=>∃ (c50 : Bool),L_SignalsFollowed_j7 v3 v7 v8 v9 v21 c50 = some r ∧ σ' = ⟨201,[(4,.sl 6 b4 0 v3.1.length),(6,I v7.1),(7,.str v8.1),(8,.str v9.1),(10,I v21),(156,.bool c50)],[(b4,fE2 v3.1)]⟩) ?_ ?_
                    · refine tR<|rM J J<|rM J J<|ARun.qv (q_neq J J) J<|rM J J<|ARun.guard_df J J J (fun hc=>?_) (fun hc=>?_)
                      · refine have h := iteF hc h; rM J J<|rY J J J<|ARun.qv (q_eql J J) J<|rY J J J<|rM J J<|ARun.guard_dt J J J (fun hc=>?_) (fun hc=>?_)
                        · exact have h := iteT hc h; rM J J<|rY J J J<|rM J J<|rY J J J<|rM J J<|rY J J J<|bndE h fun v51 e29 h=>t_call1 J (Q_AlarmsAt_c e29) (.cons (Co.froT .p1) (.cons (.refl _) .nil)) .nil (fun _=>J) J fun b52=>rY J J J<|bndE h fun v53 e30 h=>r_callpB J (slices_Equal_Alarm_Alarm_c e30) (.cons (CoB.arrT .p1) (.cons (CoB.arrT .p0) .nil)) J J<|rY J J J<|ARun.qv (q_not J) J<|rY J J J<|rT J J J<|rE J J J<|rN<|ATodo.stop<|ImpX.lq [2] ⟨!v53,h,J⟩ J J
                        · exact have h := iteF hc h; rG J J J J<|rG J J J J<|rG J J J J<|rG J J J J<|rG J J J J<|rY J J J<|rE J J J<|rE J J J<|rN<|ATodo.stop<|ImpX.lq [1] ⟨false,h,J⟩ J J
                      · exact have h := iteT hc h; rG J J J J<|rG J J J J<|ARun.guard_und J J J<|ARun.guard_und J J J<|ARun.guard_und J J J<|ARun.guard_und J J J<|ARun.guard_und J J J<|ARun.guard_und J J J<|rG J J J J<|rT J J J<|rN<|ATodo.stop<|ImpX.lq [1] ⟨true,h,J⟩ J J
                    · rintro σ' ⟨c50, h, rfl⟩
                      unfold L_SignalsFollowed_j7 at h
                      refine ATodo.cond J (fun hc=>?_) (fun hc=>?_)
                      · refine have h := iteT hc h; tSR<|rA J J<|rN<|ATodo.ret<|?_
                        obtain rfl := Option.some.inj h
                        exact ImpX.here ⟨_,.cons (.tmp _ _ J) .nil,J⟩
                      · refine have h := iteFb hc h; tK<|tSR<|rM J J<|rM J J<|rM J J<|rM J J<|bndE h fun v54 e31 h=>r_callp J (alarm_AlarmOf_c e31) (.cons (Co.froT .p0) (.cons (.refl _) (.cons (.refl _) (.cons (.refl _) .nil)))) J<|rM J J<|rX J J J<|rX J J J<|n_alloc J J J J fun b55=>n_store_ptr J J J J .p0 J J<|rA J J<|rN<|tS<|tSR<|rM J J<|rM J J<|bndE h fun v56 e32 h=>r_callp J (Q_KeyFault_c e32) (CoL.refl _) J<|rM J J<|bndE h fun v57 e33 h=>r_callp J (Q_KeyFault_c e33) (CoL.refl _) J<|rM J J<|r_callp J (Q_MomentFault_c J) (CoL.refl _) J<|n_buildSliceL (xs := ([v21,v56,v57,(Q_MomentFault v7.1)] : List Int).map I) J J J J J J<|bndE h fun v58 e34 h=>r_callp J (cmp_Or_Errno_c e34) (CoL.refl _) J<|rA J J<|rN<|tSR<|rM J J<|ARun.qv (q_neq J J) J<|rN<|ATodo.cond_d J (fun hc=>?_) (fun hc=>?_)
                        · refine have h := iteT hc h; tS<|ATodo.cut (fun σ'=>∃ (c59 : Bool),L_SignalsFollowed_j8 c59 = some r ∧ σ' = ⟨201,[(2,.bool c59)],[]⟩) ?_ ?_
                          · refine tR<|rM J J<|rM J J<|ARun.qv (q_eql J J) J<|rM J J<|ARun.guard_dt J J J (fun hc=>?_) (fun hc=>?_)
                            · refine have h := iteT hc h; ARun.qv (q_load_ptr_all J J .p0 J) J<|rY J J J<|ARun.qv (n_build J J J J J) J<|rY J J J<|ARun.qv (t_teq (g := Alarm.av) (X := v54.1) (Y := (⟨[],[],(0 : Int),(0 : Int),(0 : Int),(0 : Int)⟩ : Alarm)) J J J J J) J<|rT J J J<|rM J J<|ARun.guard_dt J J J (fun hc=>?_) (fun hc=>?_)
                              · exact have h := iteT hc h; bndE h fun v60 e35 h=>r_callp J (L_alarmed_c e35) (CoL.refl _) J<|rT J J J<|rA J J<|rN<|ATodo.stop<|ImpX.lq [] ⟨v60,h,J⟩ J J
                              · exact have h := iteF hc h; rE J J J<|rA J J<|rN<|ATodo.stop<|ImpX.lq [] ⟨false,h,J⟩ J J
                            · exact have h := iteF hc h; rG J J J J<|rG J J J J<|rE J J J<|rM J J<|rG J J J J<|rE J J J<|rA J J<|rN<|ATodo.stop<|ImpX.lq [] ⟨false,h,J⟩ J J
                          · rintro σ' ⟨c59, h, rfl⟩
                            unfold L_SignalsFollowed_j8 at h
                            refine ATodo.ret<|?_
                            obtain rfl := Option.some.inj h
                            exact ImpX.here ⟨_,.cons (.tmp _ _ J) .nil,J⟩
                        · refine have h := iteF hc h; tK<|tS<|ATodo.cut (fun σ'=>∃ (c61 : Bool),L_SignalsFollowed_j9 c61 = some r ∧ σ' = ⟨201,[(2,.bool c61)],[]⟩) ?_ ?_
                          · refine ATodo.regionM (id := 34) (A := [0,1,3,7,7,7,7,7,247,511,1023,2047,4095,8191,16383]) 15 mixed J (by kernel_rfl) (by kernel_rfl)<|AM.qv (q_move J) J<|AM.qv (q_eql J J) J<|AM.qv (q_move J) J<|AM.guard_dt J J J (fun hc=>?_) (fun hc=>?_)
                            · refine have h := iteT hc h; AM.qv (q_load_ptr_all J J .p0 J) J<|AM.guard_yes J J J<|AM.qv (q_move J) J<|AM.guard_yes J J J<|AM.qv (q_move J) J<|AM.guard_yes J J J<|AM.qv (q_move J) J<|AM.guard_yes J J J<|AM.qv (q_move J) J<|AM.guard_yes J J J<|bndE h fun v62 e36 h=>AM.callp J (Q_AlarmAt_c e36) (.cons (Co.froT .p1) (.cons (.refl _) (.cons (.refl _) (.cons (.refl _) .nil)))) J<|AM.guard_yes J J J<|AM.qv (t_teq (g := Alarm.av) (X := v54.1) (Y := v62) J J J J J) J<|AM.qv (q_pick_t J J) J<|AM.qv (q_move J) J<|AM.guard_dt J J J (fun hc=>?_) (fun hc=>?_)
                              · exact have h := iteT hc h; bndE h fun v63 e37 h=>AM.callp J (L_alarmed_c e37) (CoL.refl _) J<|AM.qv (q_pick_t J J) J<|AM.qv (q_assign J) J<|AM.nil<|rN<|ATodo.stop<|ImpX.lq [] ⟨v63,h,J⟩ J J
                              · exact have h := iteF hc h; AM.qv (q_pick_f J J) J<|AM.qv (q_assign J) J<|AM.nil<|rN<|ATodo.stop<|ImpX.lq [] ⟨false,h,J⟩ J J
                            · exact have h := iteF hc h; AM.guard_no J J J J<|AM.guard_no J J J J<|AM.guard_no J J J J<|AM.guard_no J J J J<|AM.guard_no J J J J<|AM.guard_no J J J J<|AM.qv (q_pick_f J J) J<|AM.qv (q_move J) J<|AM.guard_no J J J J<|AM.qv (q_pick_f J J) J<|AM.qv (q_assign J) J<|AM.nil<|rN<|ATodo.stop<|ImpX.lq [] ⟨false,h,J⟩ J J
                          · rintro σ' ⟨c61, h, rfl⟩
                            unfold L_SignalsFollowed_j9 at h
                            refine ATodo.ret<|?_
                            obtain rfl := Option.some.inj h
                            exact ImpX.here ⟨_,.cons (.tmp _ _ J) .nil,J⟩

end Go.Proofs.YtifmjkaghhkhfaaGreatDoor

