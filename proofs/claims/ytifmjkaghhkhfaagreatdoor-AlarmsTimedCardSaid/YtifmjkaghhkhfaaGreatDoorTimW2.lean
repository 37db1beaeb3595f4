/- The code computes the plain functions: proofs written by shal.py. -/
import Derived.Test.YtifmjkaghhkhfaaGreatDoorTimW1
set_option maxHeartbeats 4000000
set_option maxRecDepth 100000
set_option linter.unusedVariables false
set_option linter.unusedSimpArgs false
namespace Go.Proofs.YtifmjkaghhkhfaaGreatDoor
open Go Go.Eng Go.Proofs Go.Beacon
attribute [local irreducible] ARun ATodo AQ QV ACall ImpX AWp AM
theorem alarm_house_follow_c0x1x_c [GI : GTab] {b_0 : Bk} {b_0x2 : Bk} {b_0x2o : Nat → Bk} {b_0x2s : Nat → Nat → Bk} {b_0x0 : Bk} {b_0x1 : Bk} {p0x0 : Alarm_house} {p1x0 : Signal} {r : Int × Alarm_house} (h : alarm_house_follow_c0x1x p0x0 p1x0 = some r) : ACall Tryz.prog 92 [.ptr b_0 0,Signal.av p1x0] [(b_0,.cells [.mref b_0x0,.sl 1 b_0x1 0 p0x0.order_.length]),(b_0x0,.mp (p0x0.all_.map (fun e=>(Alarm_name.av e.1,(pA b_0x2o) e.2)))),(b_0x1,.arr 1 (p0x0.order_.map (pA b_0x2o))),(b_0x2,.pool (araE kE0 b_0x2o b_0x2s p0x0.ar0))] (T2 (fun c_0x1 c_0x2s=>[(b_0,.cells [.mref b_0x0,.sl 1 c_0x1 0 r.2.order_.length]),(b_0x0,.mp (r.2.all_.map (fun e=>(Alarm_name.av e.1,(pA b_0x2o) e.2)))),(c_0x1,.arr 1 (r.2.order_.map (pA b_0x2o))),(b_0x2,.pool (araE kE0 b_0x2o c_0x2s r.2.ar0))]) (fun c_0x1 c_0x2s=>I r.1)) := by
  unfold alarm_house_follow_c0x1x at h
  refine ACall.lessH ?_
  refine ACall.bodyN Tryz.func92 J Tryz.ntmps92 Tryz.results92 J J ?_
  refine tSR<|n_box J J J J fun b1=>rA J J<|rN<|tS<|ATodo.regionM (id := 1) (A := [0,1,3,7,0,16,0,64,240,511,0,2047,4095]) 11 mixed J (by kernel_rfl) (by kernel_rfl)<|AM.qv (q_move J) J<|AM.qv (q_nilCheck_ptr J) J<|AM.qv (n_field_ptr J J) J<|AM.qv (q_load_ptr J J .p1 J) J<|AM.qv (n_field_ptr J J) J<|AM.qv (q_load_ptr J J .p0 J) J<|AM.qv (n_field_ptr J J) J<|AM.qv (q_load_ptr J J .p0 J) J<|AM.qv (n_build J J J J J) J<|optE h (fun e1 h=>?_) (fun n2 e1 h=>?_)
  · refine AM.qv (t_lookupA0 (gk := Alarm_name.av) (gv := (pA b_0x2o)) (M := p0x0.all_) (key := (⟨p1x0.Device,p1x0.Rule⟩ : Alarm_name)) J J .p2 J e1) J<|AM.qv (q_load_ptr_all J J .p0 J) J<|AM.nil<|?_
    cases h
  · refine AM.qv (t_lookupA1 (gk := Alarm_name.av) (gv := (pA b_0x2o)) (M := p0x0.all_) (key := (⟨p1x0.Device,p1x0.Rule⟩ : Alarm_name)) J J .p2 e1) J<|AM.qv (q_load_ptr_all J J .p0 J) J<|AM.nil<|bndE h fun v3 e2 h=>ARun.ghost<|ImpX.araTakeN (kb := kE0) e2 .p4 J<|ImpX.here<|bndE h fun v4 e3 h=>t_call6 J (alarm_life_follow_c e3) (CoL.refl _) (.cons .p0 (.cons .p0 (.cons .p0 (.cons .p0 (.cons .p0 (.cons .p0 (.cons .p0 .nil))))))) (fun _ _ _ _ _ _=>J) J fun b5 b6 b7 b8 b9 b10=>rA J J<|ARun.ghost<|ImpX.araPutN (kb := kE0) (v' := v4.2) (s := nbk [b5,b6,b7,b8,b9,b10]) e2 (.cons .p0 (.cons .p0 (.cons .p0 (.cons .p0 (.cons .p0 (.cons .p0 (.cons .p0 .nil))))))) J (fun _=>.p4) fun bs11=>ImpX.here<|rN<|ATodo.ret<|?_
    obtain rfl := Option.some.inj h
    exact ImpX.here ⟨_,.cons (.tmp _ _ J) .nil,_,.cons .p1 (.cons .p1 (.cons .p1 (.cons .p1 .nil))),⟨b_0x1,bs11,J,J⟩⟩

theorem alarm_at_c [GI : GTab] {p0x0 : List Signal} {p1x0 : Int} {r : Alarm_house} (h : alarm_at p0x0 p1x0 = some r) : ACall Tryz.prog 94 [lE2 p0x0,I p1x0] [] (T6 (fun d_0 d_0x0 d_0x1 d_0x2 d_0x2o d_0x2s=>[(d_0,.cells [.mref d_0x0,.sl 1 d_0x1 0 r.order_.length]),(d_0x0,.mp (r.all_.map (fun e=>(Alarm_name.av e.1,(pA d_0x2o) e.2)))),(d_0x1,.arr 1 (r.order_.map (pA d_0x2o))),(d_0x2,.pool (araE kE0 d_0x2o d_0x2s r.ar0))]) (fun d_0 d_0x0 d_0x1 d_0x2 d_0x2o d_0x2s=>.ptr d_0 0)) := by
  unfold alarm_at at h
  refine ACall.lessH ?_
  refine ACall.bodyN Tryz.func94 J Tryz.ntmps94 Tryz.results94 J J ?_
  refine tSR<|rA J J<|rN<|tSR<|rM J J<|bndE h fun v1 e1 h=>t_call6 J (alarm_newHouse_c e1) (CoL.refl _) .nil (fun _ _ _ _ _ _=>J) J fun b2 b3 b4 b5 bo6 bs7=>rA J J<|rN<|tS<|tSR<|rM J J<|ARun.qv (t_len J) J<|rM J J<|rN<|ATodo.block<|ATodo.loopI (fun x : (List (Alarm_name × Int)) × (List Alarm_life) × (List Int) × Int=>alarm_at_b1 p0x0 p1x0 x.1 x.2.1 x.2.2.1 x.2.2.2) (fun x σ'=>∃ (bs16 : Nat → Nat → Bk) (b17 : Bk),σ' = ⟨25,[(1,I p1x0),(5,.ptr b2 0),(10,lE2 p0x0),(11,I (p0x0.length : Int)),(12,I x.2.2.2)],[(b2,.cells [.mref b3,.sl 1 b17 0 x.2.2.1.length]),(b3,.mp (x.1.map (fun e=>(Alarm_name.av e.1,(pA bo6) e.2)))),(b5,.pool (araE kE0 bo6 bs16 x.2.1)),(b17,.arr 1 (x.2.2.1.map (pA bo6)))]⟩) h ?_ ?_
  · exact ImpX.lq [0,0,1,0] ⟨bs7,b4,J⟩ J J
  · intro x z1 σ' J1 hmk h hJ1 hA1
    obtain ⟨l14, l15, l18, n19⟩ := x
    obtain ⟨bs16, b17, rfl⟩ := hmk
    replace h : alarm_at_b1 p0x0 p1x0 l14 l15 l18 n19 = some z1 := h
    unfold alarm_at_b1 at h
    refine tSR<|ARun.qv (q_lss J J) J<|rN<|tS<|ATodo.cond_d J (fun hc=>?_) (fun hc=>?_)
    · refine have h := iteT hc h; tK<|tS<|ATodo.block<|tSR<|bndE h fun v20 e2 h=>ARun.qv (t_index J J J e2 J J) J<|ARun.qv (q_load_rptr_agg J J J) J<|n_alloc J J J J fun b21=>n_store_ptr J J J J .p0 J J<|rN<|tSR<|rF J J J<|rL J J .p0 J J<|rM J J<|ARun.qv (q_leq J J) J<|rN<|ATodo.cut (fun σ'=>∃ (bs24 : Nat → Nat → Bk) (b25 : Bk) (l22 : List (Alarm_name × Int)) (l23 : List Alarm_life) (l26 : List Int),alarm_at_j1 n19 l22 l23 l26 = some z1 ∧ σ' = ⟨25,[(1,I p1x0),(5,.ptr b2 0),(10,lE2 p0x0),(11,I (p0x0.length : Int)),(12,I n19)],[(b2,.cells [.mref b3,.sl 1 b25 0 l26.length]),(b3,.mp (l22.map (fun e=>(Alarm_name.av e.1,(pA bo6) e.2)))),(b5,.pool (araE kE0 bo6 bs24 l23)),(b25,.arr 1 (l26.map (pA bo6)))]⟩) ?_ ?_
      · refine ATodo.cond_d J (fun hc=>?_) (fun hc=>?_)
        · exact have h := iteT hc h; tR<|rM J J<|ARun.qv (q_load_ptr_all J J .p0 J) J<|bndE h fun v27 e3 h=>t_call2 J (alarm_house_follow_c0x1x_c e3) (CoL.refl _) (.cons .p1 (.cons .p1 (.cons .p2 (.cons .p1 .nil)))) (fun _ _=>J) J fun b28 bs29=>rN<|ATodo.stop<|ImpX.lq [0,0,1,0] ⟨bs29,b28,v27.2.all_,v27.2.ar0,v27.2.order_,h,J⟩ J J
        · exact have h := iteF hc h; tK<|ATodo.stop<|ImpX.lq [1,1,1,1] ⟨bs16,b17,l14,l15,l18,h,J⟩ J J
      · rintro σ' ⟨bs24, b25, l22, l23, l26, h, rfl⟩
        unfold alarm_at_j1 at h
        refine ATodo.blk<|tR<|ARun.qv (q_addw J J) J<|rM J J<|rN<|ATodo.stop<|?_
        obtain rfl := Option.some.inj h
        exact hJ1 _ _ J<|ImpX.lq [0,0,0,0] ⟨bs24,b25,J⟩ J J
    · refine have h := iteF hc h; ATodo.exit J<|have h := outL h hA1; tSR<|rM J J<|rA J J<|rN<|ATodo.ret<|?_
      obtain rfl := Option.some.inj h
      exact ImpX.here ⟨_,.cons (.tmp _ _ J) .nil,_,.cons .p0 (.cons .p0 (.cons .p1 (.cons .p0 .nil))),⟨b2,b3,b17,b5,bo6,bs16,J,J⟩⟩

theorem slices_Clone_Window_Window_c [GI : GTab] {p0x0 : List Window} {r : (List Window)} (h : slices_Clone_Window_Window p0x0 = some r) : ACall Tryz.prog 179 [.list 2 (p0x0.map Window.av)] [] (T1 (fun d_0=>[(d_0,.arr 2 (r.map Window.av))]) (fun d_0=>.sl 2 d_0 0 r.length)) := by
  unfold slices_Clone_Window_Window at h
  refine ACall.lessH ?_
  refine ACall.bodyN Tryz.func179 J Tryz.ntmps179 Tryz.results179 J J ?_
  refine ATodo.seq ?_
  refine ATodo.region ?_
  refine ARun.qv (q_assign J) J ?_
  refine ARun.nil ?_
  refine ATodo.seq ?_
  refine ATodo.seq ?_
  refine ATodo.region ?_
  refine ARun.qv (q_move J) J ?_
  refine r_eqnil J J J J (fun c hc=>?_)
  refine ARun.nil ?_
  refine ATodo.cond J (fun hT=>?_) (fun hF=>?_)
  · obtain rfl := app_nil_some h (List.map_eq_nil_iff.1 (hc hT))
    refine ATodo.seq ?_
    refine ATodo.region ?_
    refine ARun.qv (q_assign J) J ?_
    refine ARun.nil ?_
    refine ATodo.ret ?_
    refine ImpX.arr (s := 2) 2 J (fun b1=>?_)
    exact ImpX.here ⟨_,.cons (.tmp _ _ J) .nil,_,.cons .here .nil,⟨b1,J,J⟩⟩
  · refine ATodo.skip ?_
    refine ATodo.seq ?_
    refine ATodo.region ?_
    refine n_buildSlice (xs := ([] : List Window).map Window.av) J J J J J J (fun b2=>?_)
    refine ARun.qv (q_move J) J ?_
    refine t_append (g := Window.av) (Xs := []) J J J J J J J J (.list _) h (fun _=>.here) J (fun b3=>?_)
    refine ARun.qv (q_assign J) J ?_
    refine ARun.nil ?_
    refine ATodo.ret ?_
    exact ImpX.here ⟨_,.cons (.tmp _ _ J) .nil,_,.cons .here .nil,⟨b3,J,J⟩⟩

theorem alarm_lasting_1x_c [GI : GTab] {p0x0 : Window} {r : Bool} (h : alarm_lasting_1x p0x0 = r) : Pu Tryz.prog 180 [Window.av p0x0] (.bool r) := by
  unfold alarm_lasting_1x at h
  refine ACall.bodyN Tryz.func180 J Tryz.ntmps180 Tryz.results180 J J ?_
  refine tSR<|n_box J J J J fun b1=>rA J J<|rN<|tSR<|rF J J J<|rL J J .p0 J J<|rF J J J<|rL J J .p0 J J<|ARun.qv (q_geq J J) J<|rA J J<|rN<|ATodo.ret<|?_
  obtain rfl := h
  exact ImpX.here ⟨_,.cons (.tmp _ _ J) .nil,J⟩

theorem slices_IndexFunc_Window_Window_c [GI : GTab] {p0x0 : List Window} {fnb : Window → Option Bool} {fnb_F : FuncId} [IsFn Tryz.prog fnb_F] {fnb_C : List AV} (fnb_h : ∀ {y0 : _} {u : Bool},fnb y0 = some u → Pu Tryz.prog fnb_F (Window.av y0 ::  fnb_C) (.bool u)) {r : Int} (h : slices_IndexFunc_Window_Window p0x0 fnb = some r) : Pu Tryz.prog 218 [lE3 p0x0,.func (.func fnb_F) fnb_C] (I r) := by
  unfold slices_IndexFunc_Window_Window at h
  refine ACall.bodyN Tryz.func218 J Tryz.ntmps218 Tryz.results218 J J ?_
  refine tSR<|rA J J<|rN<|tS<|tSR<|rM J J<|ARun.qv (t_len J) J<|rM J J<|rN<|ATodo.block<|ATodo.loopI (fun x : Int=>slices_IndexFunc_Window_Window_b1 p0x0 fnb x) (fun x σ'=>σ' = ⟨19,[(0,lE3 p0x0),(1,.func (.func fnb_F) fnb_C),(7,I (p0x0.length : Int)),(8,I x)],[]⟩) h ?_ ?_
  · exact ImpX.lq [] J J J
  · intro n2 z1 σ' J1 hmk h hJ1 hA1
    obtain rfl := hmk
    replace h : slices_IndexFunc_Window_Window_b1 p0x0 fnb n2 = some z1 := h
    unfold slices_IndexFunc_Window_Window_b1 at h
    refine tSR<|ARun.qv (q_lss J J) J<|rN<|tS<|ATodo.cond_d J (fun hc=>?_) (fun hc=>?_)
    · refine have h := iteT hc h; tK<|tS<|ATodo.block<|tSR<|rM J J<|rA J J<|rN<|tSR<|rM J J<|rM J J<|rM J J<|bndE h fun v3 e1 h=>ARun.qv (t_index J J J e1 J J) J<|ARun.qv (q_load_rptr_agg J J J) J<|bndE h fun v4 e2 h=>r_callvp J J (fnb_h e2) (CoL.refl _) J<|rN<|ATodo.cond J (fun hc=>?_) (fun hc=>?_)
      · refine have h := iteT hc h; tSR<|rM J J<|rA J J<|rN<|ATodo.ret<|have h := outL h hA1; ?_
        obtain rfl := Option.some.inj h
        exact ImpX.here ⟨_,.cons (.tmp _ _ J) .nil,J⟩
      · refine have h := iteFb hc h; tK<|ATodo.blk<|tR<|ARun.qv (q_addw J J) J<|rM J J<|rN<|ATodo.stop<|?_
        obtain rfl := Option.some.inj h
        exact hJ1 _ _ J<|ImpX.lq [] J J J
    · refine have h := iteF hc h; ATodo.exit J<|have h := outL h hA1; tSR<|rA J J<|rN<|ATodo.ret<|?_
      obtain rfl := Option.some.inj h
      exact ImpX.here ⟨_,.cons (.tmp _ _ J) .nil,J⟩

theorem slices_DeleteFunc_Window_Window_c [GI : GTab] {b_0 : Bk} {p0x0 : List Window} {fnb : Window → Option Bool} {fnb_F : FuncId} [IsFn Tryz.prog fnb_F] {fnb_C : List AV} (fnb_h : ∀ {y0 : _} {u : Bool},fnb y0 = some u → Pu Tryz.prog fnb_F (Window.av y0 ::  fnb_C) (.bool u)) {r : (List Window)} (h : slices_DeleteFunc_Window_Window p0x0 fnb = some r) : ACall Tryz.prog 178 [.sl 2 b_0 0 p0x0.length,.func (.func fnb_F) fnb_C] [(b_0,aE3 p0x0)] (T1 (fun d_0=>[(d_0,aE3 r)]) (fun d_0=>.sl 2 d_0 0 r.length)) := by
  unfold slices_DeleteFunc_Window_Window at h
  refine ACall.lessH ?_
  refine ACall.bodyN Tryz.func178 J Tryz.ntmps178 Tryz.results178 J J ?_
  refine tSR<|rA J J<|rN<|tSR<|rM J J<|rM J J<|bndE h fun v1 e1 h=>r_callpB J (slices_IndexFunc_Window_Window_c fnb_h e1) (.cons (CoB.arrT .p0) (.cons (.co (.refl _)) .nil)) J J<|rA J J<|rN<|tS<|tSR<|rM J J<|ARun.qv (q_eql J J) J<|rN<|ATodo.cond_d J (fun hc=>?_) (fun hc=>?_)
  · refine have h := iteT hc h; tSR<|rM J J<|rA J J<|rN<|ATodo.ret<|?_
    obtain rfl := Option.some.inj h
    exact ImpX.here ⟨_,.cons (.tmp _ _ J) .nil,_,.cons .p0 .nil,⟨b_0,J,J⟩⟩
  · refine have h := iteF hc h; tK<|tS<|tSR<|rM J J<|ARun.qv (q_addw J J) J<|rA J J<|rN<|ATodo.block<|ATodo.loopI (fun x : (List Window) × Int × Int=>slices_DeleteFunc_Window_Window_b1 fnb x.1 x.2.1 x.2.2) (fun x σ'=>σ' = ⟨42,[(0,.sl 2 b_0 0 x.1.length),(1,.func (.func fnb_F) fnb_C),(5,I x.2.1),(6,I x.2.2)],[(b_0,aE3 x.1)]⟩) h ?_ ?_
    · exact ImpX.lq [0] J J J
    · intro x z1 σ' J1 hmk h hJ1 hA1
      obtain ⟨l5, n6, n7⟩ := x
      obtain rfl := hmk
      replace h : slices_DeleteFunc_Window_Window_b1 fnb l5 n6 n7 = some z1 := h
      unfold slices_DeleteFunc_Window_Window_b1 at h
      refine tS<|tSR<|rM J J<|rM J J<|ARun.qv (t_len_sl J) J<|ARun.qv (q_lss J J) J<|rN<|ATodo.cond_d J (fun hc=>?_) (fun hc=>?_)
      · refine have h := iteT hc h; tK<|tS<|ATodo.block<|tSR<|rM J J<|rM J J<|bndE h fun v8 e2 h=>ARun.qv (t_index_sl J J J e2) J<|ARun.qv (t_load_aptr_agg (g := Window.av) J J (.inl .p0) J e2 J) J<|n_alloc J J J J fun b9=>n_store_ptr J J J J .p0 J J<|rN<|tSR<|rM J J<|ARun.qv (q_load_ptr_all J J .p0 J) J<|bndE h fun v10 e3 h=>r_callvp J J (fnb_h e3) (CoL.refl _) J<|ARun.qv (q_not J) J<|rN<|ATodo.cut (fun σ'=>∃ (l11 : List Window) (n12 : Int),slices_DeleteFunc_Window_Window_j1 n7 l11 n12 = some z1 ∧ σ' = ⟨42,[(0,.sl 2 b_0 0 l11.length),(1,.func (.func fnb_F) fnb_C),(5,I n12),(6,I n7)],[(b_0,aE3 l11)]⟩) ?_ ?_
        · refine ATodo.cond J (fun hc=>?_) (fun hc=>?_)
          · exact have h := iteT hc h; tSR<|rM J J<|rM J J<|ARun.qv (q_load_ptr_all J J .p0 J) J<|bndE h fun v13 e4 h=>ARun.qv (t_index_sl J J J e4) J<|t_store_aptr1 (g := Window.av) (el' := v8) J J J J e4 J .p1 J<|ARun.ghost<|ImpX.eqs (s := 0) (av' := .sl 2 b_0 0 (l5.set n6.toNat v8).length) J (by rw [List.length_set])<|ImpX.here<|ARun.ghost<|ImpX.eqs (s := 17) (av' := .sl 2 b_0 0 (l5.set n6.toNat v8).length) J (by rw [List.length_set])<|ImpX.here<|ARun.ghost<|ImpX.eqs (s := 22) (av' := .sl 2 b_0 0 (l5.set n6.toNat v8).length) J (by rw [List.length_set])<|ImpX.here<|ARun.ghost<|ImpX.eqs (s := 30) (av' := .sl 2 b_0 0 (l5.set n6.toNat v8).length) J (by rw [List.length_set])<|ImpX.here<|rN<|tR<|rM J J<|ARun.qv (q_addw J J) J<|rA J J<|rN<|ATodo.stop<|ImpX.lq [1] ⟨l5.set n6.toNat v8,w64 (n6 + (1 : Int)),h,J⟩ J J
          · exact have h := iteFb hc h; tK<|ATodo.stop<|ImpX.lq [1] ⟨l5,n6,h,J⟩ J J
        · rintro σ' ⟨l11, n12, h, rfl⟩
          unfold slices_DeleteFunc_Window_Window_j1 at h
          refine ATodo.blk<|tR<|rM J J<|ARun.qv (q_addw J J) J<|rA J J<|rN<|ATodo.stop<|?_
          obtain rfl := Option.some.inj h
          exact hJ1 _ _ J<|ImpX.lq [0] J J J
      · refine have h := iteF hc h; ATodo.exit J<|have h := outL h hA1; ?_
        unfold slices_DeleteFunc_Window_Window_k2 at h
        refine tSR<|rM J J<|rM J J<|bndE h fun l14 e5 h=>ARun.qv (t_slice_sl J J (.some _ _ _ J) .none J J e5) J<|t_clear (g := Window.av) (Z := (⟨(0 : Int),(0 : Int)⟩ : Window)) (L := n6) J J J J J J e5 .p0<|ARun.ghost<|ImpX.eqs (s := 0) (av' := .sl 2 b_0 0 (clr l5 n6 l14.length (⟨(0 : Int),(0 : Int)⟩ : Window)).length) J (congrArg (AV.sl 2 b_0 0) (clr_len e5))<|ImpX.here<|ARun.ghost<|ImpX.eqs (s := 17) (av' := .sl 2 b_0 0 (clr l5 n6 l14.length (⟨(0 : Int),(0 : Int)⟩ : Window)).length) J (congrArg (AV.sl 2 b_0 0) (clr_len e5))<|ImpX.here<|ARun.ghost<|ImpX.eqs (s := 36) (av' := .sl 2 b_0 0 (clr l5 n6 l14.length (⟨(0 : Int),(0 : Int)⟩ : Window)).length) J (congrArg (AV.sl 2 b_0 0) (clr_len e5))<|ImpX.here<|rN<|tSR<|rM J J<|rM J J<|bndE h fun l15 e6 h=>ARun.qv (t_slice_sl J J .none (.some _ _ _ J) J J e6) J<|rA J J<|ARun.ghost<|ImpX.takeT e6 .p0<|ImpX.here<|rN<|ATodo.ret<|?_
        obtain rfl := Option.some.inj h
        exact ImpX.here ⟨_,.cons (.tmp _ _ J) .nil,_,.cons .p0 .nil,⟨b_0,J,J⟩⟩

theorem alarm_lasting_c [GI : GTab] {p0x0 : List Window} {r : (List Window)} (h : alarm_lasting p0x0 = some r) : ACall Tryz.prog 133 [lE3 p0x0] [] (T1 (fun d_0=>[(d_0,aE3 r)]) (fun d_0=>.sl 2 d_0 0 r.length)) := by
  unfold alarm_lasting at h
  refine ACall.lessH ?_
  refine ACall.bodyN Tryz.func133 J Tryz.ntmps133 Tryz.results133 J J ?_
  refine tSR<|rA J J<|rN<|tSR<|rM J J<|bndE h fun v1 e1 h=>t_call1 J (slices_Clone_Window_Window_c e1) (CoL.refl _) .nil (fun _=>J) J fun b2=>bndE h fun v3 e2 h=>t_call1 J (slices_DeleteFunc_Window_Window_c (fun e=>alarm_lasting_1x_c (Option.some.inj e)) e2) (CoL.refl _) (.cons .p0 .nil) (fun _=>J) J fun b4=>rA J J<|rN<|ATodo.ret<|?_
  obtain rfl := Option.some.inj h
  exact ImpX.here ⟨_,.cons (.tmp _ _ J) .nil,_,.cons .p0 .nil,⟨b4,J,J⟩⟩

theorem alarm_Active_c [GI : GTab] {p0x0 : List Signal} {p1x0 : Str} {p2x0 : Str} {r : (List Window) × Int} (h : alarm_Active p0x0 p1x0 p2x0 = some r) : ACall Tryz.prog 62 [lE2 p0x0,.str p1x0,.str p2x0] [] (T1 (fun d_0=>[(d_0,aE3 r.1)]) (fun d_0=>.tup [.sl 2 d_0 0 r.1.length,I r.2])) := by
  unfold alarm_Active at h
  refine ACall.lessH ?_
  refine ACall.bodyN Tryz.func62 J Tryz.ntmps62 Tryz.results62 J J ?_
  refine tSR<|rA J J<|rA J J<|rN<|tS<|tSR<|rM J J<|rM J J<|rM J J<|bndE h fun v1 e1 h=>r_callp J (alarm_nameFault_c e1) (CoL.refl _) J<|rA J J<|rN<|tSR<|rM J J<|ARun.qv (q_neq J J) J<|rN<|ATodo.cond_d J (fun hc=>?_) (fun hc=>?_)
  · refine have h := iteT hc h; tSR<|rM J J<|rA J J<|rA J J<|rN<|ATodo.ret<|?_
    obtain rfl := Option.some.inj h
    exact ImpX.arr (s := 6) 2 J fun b2=>ImpX.here ⟨_,.cons (.tmp _ _ J) (.cons (.tmp _ _ J) .nil),_,.cons .p0 .nil,⟨b2,J,J⟩⟩
  · refine have h := iteF hc h; tK<|tSR<|rM J J<|bndE h fun v3 e2 h=>t_call6 J (alarm_at_c e2) (CoL.refl _) .nil (fun _ _ _ _ _ _=>J) J fun b4 b5 b6 b7 bo8 bs9=>ARun.qv (q_nilCheck_ptr J) J<|rF J J J<|rL J J .p0 J J<|rM J J<|rM J J<|ARun.qv (n_build J J J J J) J<|optE h (fun e3 h=>?_) (fun n10 e3 h=>?_)
    · refine ARun.qv (t_lookupA0 (gk := Alarm_name.av) (gv := (pA bo8)) (M := v3.all_) (key := (⟨p1x0,p2x0⟩ : Alarm_name)) J J .p1 J e3) J<|rA J J<|rN<|tS<|tSR<|rM J J<|ARun.qv (q_ppneql J J) J<|rN<|ATodo.cond_t J<|tSR<|rA J J<|rA J J<|rN<|ATodo.ret<|?_
      obtain rfl := Option.some.inj h
      exact ImpX.arr (s := 6) 2 J fun b11=>ImpX.here ⟨_,.cons (.tmp _ _ J) (.cons (.tmp _ _ J) .nil),_,.cons .p0 .nil,⟨b11,J,J⟩⟩
    · refine ARun.qv (t_lookupA1 (gk := Alarm_name.av) (gv := (pA bo8)) (M := v3.all_) (key := (⟨p1x0,p2x0⟩ : Alarm_name)) J J .p1 e3) J<|rA J J<|rN<|tS<|tSR<|rM J J<|ARun.qv (q_ppeql J J) J<|rN<|ATodo.cond_f J<|tK<|tSR<|rM J J<|ARun.qv (q_nilCheck_ptr J) J<|rF J J J<|bndE h fun v12 e4 h=>ARun.ghost<|ImpX.araTakeN (kb := kE0) e4 .p3 J<|ImpX.here<|rL J J .p0 J J<|bndE h fun v13 e5 h=>t_callL1 J (alarm_lasting_c e5) .nil (.cons (CoB.arrT .p2) .nil) (fun _=>J) (fun _=>J) (fun _=>(.cons (NoS.arrT (fun _=>J)) .nil)) J fun b14=>rA J J<|rA J J<|ARun.ghost<|ImpX.araBack (kb := kE0) e4 (.cons .p1 (.cons .p1 (.cons .p1 (.cons .p1 (.cons .p1 (.cons .p1 (.cons .p1 .nil))))))) J .p4<|ImpX.here<|rN<|ATodo.ret<|?_
      obtain rfl := Option.some.inj h
      exact ImpX.here ⟨_,.cons (.tmp _ _ J) (.cons (.tmp _ _ J) .nil),_,.cons .p0 .nil,⟨b14,J,J⟩⟩

theorem Q_isUp_c [GI : GTab] {p0x0 : Alarm} {r : Bool} (h : Q_isUp p0x0 = r) : Pu Tryz.prog 126 [Alarm.av p0x0] (.bool r) := by
  unfold Q_isUp at h
  refine ACall.bodyN Tryz.func126 J Tryz.ntmps126 Tryz.results126 J J ?_
  refine tSR<|n_box J J J J fun b1=>rA J J<|rN<|tS<|ATodo.cut (fun σ'=>∃ (c2 : Bool),Q_isUp_j1 c2 = r ∧ σ' = ⟨11,[(2,.bool c2)],[]⟩) ?_ ?_
  · refine tR<|rF J J J<|rL J J .p0 J J<|ARun.qv (q_eql J J) J<|rM J J<|ARun.guard_df J J J (fun hc=>?_) (fun hc=>?_)
    · rw [orFd hc] at h
      exact rF J J J<|rY J J J<|rL J J .p0 J J<|rY J J J<|ARun.qv (q_eql J J) J<|rE J J J<|rA J J<|rN<|ATodo.stop<|ImpX.lq [] ⟨decide (p0x0.State = (2 : Int)),h,J⟩ J J
    · rw [orTd hc] at h
      exact rG J J J J<|rG J J J J<|rT J J J<|rA J J<|rN<|ATodo.stop<|ImpX.lq [] ⟨true,h,J⟩ J J
  · rintro σ' ⟨c2, h, rfl⟩
    unfold Q_isUp_j1 at h
    refine ATodo.ret<|?_
    obtain rfl := h
    exact ImpX.here ⟨_,.cons (.tmp _ _ J) .nil,J⟩

theorem slices_Sort_int_int_k : Sort1 Tryz.prog 182 (Value.int .i64) srtI := ⟨fun blk off cap zs w hH hb hs=>Tryz.slices_Sort_int blk off cap zs w hH hb hs,fun p cap w=>Tryz.slices_Sort_int_none p cap w⟩
theorem slices_Sort_int_int_c [GI : GTab] {b_0 : Bk} {p0x0 : List Int} {r : (List Int)} (h : slices_Sort_int_int p0x0 = some r) : ACall Tryz.prog 182 [.sl 1 b_0 0 p0x0.length] [(b_0,.arr 1 (p0x0.map I))] (T0 [(b_0,.arr 1 (r.map I))] (.tup [])) :=
  sortI_acall slices_Sort_int_int_k h

theorem slices_Compact_int_int_c [GI : GTab] {b_0 : Bk} {p0x0 : List Int} {r : (List Int)} (h : slices_Compact_int_int p0x0 = some r) : ACall Tryz.prog 183 [.sl 1 b_0 0 p0x0.length] [(b_0,aE0 p0x0)] (T1 (fun d_0=>[(d_0,aE0 r)]) (fun d_0=>.sl 1 d_0 0 r.length)) := by
  unfold slices_Compact_int_int at h
  refine ACall.lessH ?_
  refine ACall.bodyN Tryz.func183 J Tryz.ntmps183 Tryz.results183 J J ?_
  refine tSR<|rA J J<|rN<|tS<|tSR<|rM J J<|ARun.qv (t_len_sl J) J<|ARun.qv (q_lss J J) J<|rN<|ATodo.cond_d J (fun hc=>?_) (fun hc=>?_)
  · refine have h := iteT hc h; tSR<|rM J J<|rA J J<|rN<|ATodo.ret<|?_
    obtain rfl := Option.some.inj h
    exact ImpX.here ⟨_,.cons (.tmp _ _ J) .nil,_,.cons .p0 .nil,⟨b_0,J,J⟩⟩
  · refine have h := iteF hc h; tK<|tS<|tSR<|rA J J<|rN<|ATodo.block<|ATodo.loopI (fun x : Int=>slices_Compact_int_int_b1 p0x0 x) (fun x σ'=>σ' = ⟨61,[(0,.sl 1 b_0 0 p0x0.length),(3,I x)],[(b_0,aE0 p0x0)]⟩) h ?_ ?_
    · exact ImpX.lq [0] J J J
    · intro n2 z1 σ' J1 hmk h hJ1 hA1
      obtain rfl := hmk
      replace h : slices_Compact_int_int_b1 p0x0 n2 = some z1 := h
      unfold slices_Compact_int_int_b1 at h
      refine tS<|tSR<|rM J J<|rM J J<|ARun.qv (t_len_sl J) J<|ARun.qv (q_lss J J) J<|rN<|ATodo.cond_d J (fun hc=>?_) (fun hc=>?_)
      · refine have h := iteT hc h; tK<|tS<|ATodo.block<|tS<|ATodo.regionM (id := 6) (A := [0,0,3,7,0,0,32,112,240,511]) 10 mixed J (by kernel_rfl) (by kernel_rfl)<|AM.qv (q_move J) J<|AM.qv (q_move J) J<|bndE h fun v3 e1 h=>AM.qv (t_index_sl J J J e1) J<|AM.qv (t_load_aptr (g := I) J J (.inl .p0) e1 J) J<|AM.qv (q_move J) J<|AM.qv (q_move J) J<|AM.qv (q_subw J J) J<|bndE h fun v4 e2 h=>AM.qv (t_index_sl J J J e2) J<|AM.qv (t_load_aptr (g := I) J J (.inl .p0) e2 J) J<|AM.qv (q_eql J J) J<|AM.nil<|rN<|ATodo.cond_d J (fun hc=>?_) (fun hc=>?_)
        · refine have h := iteT hc h; tSR<|rM J J<|rM J J<|bndE h fun l5 e3 h=>ARun.qv (t_slice_sl J J (.some _ _ _ J) .none J J e3) J<|rA J J<|rN<|tS<|tSR<|rA J J<|rN<|ATodo.block<|ATodo.loopI (fun x : (List Int) × Int × Int=>slices_Compact_int_int_b2 n2 l5 x.1 x.2.1 x.2.2) (fun x σ'=>σ' = ⟨61,[(0,.sl 1 b_0 0 x.1.length),(3,I x.2.1),(4,.sl 1 b_0 n2.toNat l5.length),(5,I x.2.2)],[(b_0,aE0 x.1)]⟩) h ?_ ?_
          · exact ImpX.lq [0] J J J
          · intro x z2 σ' J2 hmk h hJ2 hA2
            obtain ⟨l9, n10, n11⟩ := x
            obtain rfl := hmk
            replace h : slices_Compact_int_int_b2 n2 l5 l9 n10 n11 = some z2 := h
            unfold slices_Compact_int_int_b2 at h
            refine tS<|tSR<|rM J J<|rM J J<|ARun.qv (t_len_sub J) J<|ARun.qv (q_lss J J) J<|rN<|ATodo.cond_d J (fun hc=>?_) (fun hc=>?_)
            · refine have h := iteT hc h; tK<|tS<|ATodo.block<|tS<|ATodo.regionM (id := 11) (A := [0,0,3,7,0,0,32,112,240,511]) 10 mixed J (by kernel_rfl) (by kernel_rfl)<|AM.qv (q_move J) J<|AM.qv (q_move J) J<|bndE h fun v12 e4 h=>AM.qv (t_index_sub (L := n2) J J J e4) J<|AM.qv (t_load_aptr (g := I) J J (.inl .p0) (idxS_some e4).2 J) J<|AM.qv (q_move J) J<|AM.qv (q_move J) J<|AM.qv (q_subw J J) J<|bndE h fun v13 e5 h=>AM.qv (t_index_sub (L := n2) J J J e5) J<|AM.qv (t_load_aptr (g := I) J J (.inl .p0) (idxS_some e5).2 J) J<|AM.qv (q_neq J J) J<|AM.nil<|rN<|ATodo.cut (fun σ'=>∃ (l14 : List Int) (n15 : Int),slices_Compact_int_int_j1 n11 l14 n15 = some z2 ∧ σ' = ⟨61,[(0,.sl 1 b_0 0 l14.length),(3,I n15),(4,.sl 1 b_0 n2.toNat l5.length),(5,I n11)],[(b_0,aE0 l14)]⟩) ?_ ?_
              · refine ATodo.cond_d J (fun hc=>?_) (fun hc=>?_)
                · exact have h := iteT hc h; tSR<|rM J J<|rM J J<|rM J J<|rM J J<|bndE h fun v16 e6 h=>ARun.qv (t_index_sub (L := n2) J J J e6) J<|ARun.qv (t_load_aptr (g := I) J J (.inl .p0) (idxS_some e6).2 J) J<|bndE h fun v17 e7 h=>ARun.qv (t_index_sl J J J e7) J<|t_store_aptr1 (g := I) (el' := v16) J J J J e7 J .p0 J<|ARun.ghost<|ImpX.eqs (s := 0) (av' := .sl 1 b_0 0 (l9.set n10.toNat v16).length) J (by rw [List.length_set])<|ImpX.here<|ARun.ghost<|ImpX.eqs (s := 45) (av' := .sl 1 b_0 0 (l9.set n10.toNat v16).length) J (by rw [List.length_set])<|ImpX.here<|rN<|tR<|rM J J<|ARun.qv (q_addw J J) J<|rA J J<|rN<|ATodo.stop<|ImpX.lq [0] ⟨l9.set n10.toNat v16,w64 (n10 + (1 : Int)),h,J⟩ J J
                · exact have h := iteF hc h; tK<|ATodo.stop<|ImpX.lq [0] ⟨l9,n10,h,J⟩ J J
              · rintro σ' ⟨l14, n15, h, rfl⟩
                unfold slices_Compact_int_int_j1 at h
                refine ATodo.blk<|tR<|rM J J<|ARun.qv (q_addw J J) J<|rA J J<|rN<|ATodo.stop<|?_
                obtain rfl := Option.some.inj h
                exact hJ2 _ _ J<|ImpX.lq [0] J J J
            · refine have h := iteF hc h; ATodo.exit J<|have h := outL h hA2; ?_
              unfold slices_Compact_int_int_k2 at h
              refine tSR<|rM J J<|rM J J<|bndE h fun l18 e8 h=>ARun.qv (t_slice_sl J J (.some _ _ _ J) .none J J e8) J<|t_clear (g := I) (Z := (0 : Int)) (L := n10) J J J J J J e8 .p0<|ARun.ghost<|ImpX.eqs (s := 0) (av' := .sl 1 b_0 0 (clr l9 n10 l18.length (0 : Int)).length) J (congrArg (AV.sl 1 b_0 0) (clr_len e8))<|ImpX.here<|ARun.ghost<|ImpX.eqs (s := 54) (av' := .sl 1 b_0 0 (clr l9 n10 l18.length (0 : Int)).length) J (congrArg (AV.sl 1 b_0 0) (clr_len e8))<|ImpX.here<|rN<|tSR<|rM J J<|rM J J<|bndE h fun l19 e9 h=>ARun.qv (t_slice_sl J J .none (.some _ _ _ J) J J e9) J<|rA J J<|ARun.ghost<|ImpX.takeT e9 .p0<|ImpX.here<|rN<|ATodo.ret<|have h := outL h hA1; ?_
              obtain rfl := Option.some.inj h
              exact ImpX.here ⟨_,.cons (.tmp _ _ J) .nil,_,.cons .p0 .nil,⟨b_0,J,J⟩⟩
        · refine have h := iteF hc h; tK<|ATodo.blk<|tR<|rM J J<|ARun.qv (q_addw J J) J<|rA J J<|rN<|ATodo.stop<|?_
          obtain rfl := Option.some.inj h
          exact hJ1 _ _ J<|ImpX.lq [0] J J J
      · refine have h := iteF hc h; ATodo.exit J<|have h := outL h hA1; tSR<|rM J J<|rA J J<|rN<|ATodo.ret<|?_
        obtain rfl := Option.some.inj h
        exact ImpX.here ⟨_,.cons (.tmp _ _ J) .nil,_,.cons .p0 .nil,⟨b_0,J,J⟩⟩

theorem Q_signalMoments_c [GI : GTab] {p0x0 : List Signal} {r : (List Int)} (h : Q_signalMoments p0x0 = some r) : ACall Tryz.prog 138 [lE2 p0x0] [] (T1 (fun d_0=>[(d_0,aE0 r)]) (fun d_0=>.sl 1 d_0 0 r.length)) := by
  unfold Q_signalMoments at h
  refine ACall.lessH ?_
  refine ACall.bodyN Tryz.func138 J Tryz.ntmps138 Tryz.results138 J J ?_
  refine tSR<|rA J J<|rN<|tSR<|n_buildSlice J J J J J J fun b1=>rA J J<|rN<|tS<|tSR<|rM J J<|ARun.qv (t_len J) J<|rM J J<|rN<|ATodo.block<|ATodo.loopI (fun x : (List Int) × Int=>Q_signalMoments_b1 p0x0 x.1 x.2) (fun x σ'=>∃ (b5 : Bk),σ' = ⟨31,[(3,.sl 1 b5 0 x.1.length),(7,lE2 p0x0),(8,I (p0x0.length : Int)),(9,I x.2)],[(b5,aE0 x.1)]⟩) h ?_ ?_
  · exact ImpX.lq [0] ⟨b1,J⟩ J J
  · intro x z1 σ' J1 hmk h hJ1 hA1
    obtain ⟨l6, n7⟩ := x
    obtain ⟨b5, rfl⟩ := hmk
    replace h : Q_signalMoments_b1 p0x0 l6 n7 = some z1 := h
    unfold Q_signalMoments_b1 at h
    refine tSR<|ARun.qv (q_lss J J) J<|rN<|tS<|ATodo.cond_d J (fun hc=>?_) (fun hc=>?_)
    · refine have h := iteT hc h; tK<|tS<|ATodo.block<|tSR<|bndE h fun v8 e1 h=>ARun.qv (t_index J J J e1 J J) J<|ARun.qv (q_load_rptr_agg J J J) J<|n_alloc J J J J fun b9=>n_store_ptr J J J J .p0 J J<|rN<|tSR<|rM J J<|rF J J J<|rL J J .p0 J J<|n_buildSliceL (xs := ([v8.At] : List Int).map I) J J J J J J<|bndE h fun l10 e2 h=>t_append (g := I) J J J J J J J J (.list _) e2 (fun _=>.p1) J fun b11=>rA J J<|rN<|tSR<|rF J J J<|rL J J .p0 J J<|ARun.qv (q_eql J J) J<|rN<|ATodo.cut (fun σ'=>∃ (b12 : Bk) (l13 : List Int),Q_signalMoments_j1 n7 l13 = some z1 ∧ σ' = ⟨31,[(3,.sl 1 b12 0 l13.length),(7,lE2 p0x0),(8,I (p0x0.length : Int)),(9,I n7)],[(b12,aE0 l13)]⟩) ?_ ?_
      · refine ATodo.cond_d J (fun hc=>?_) (fun hc=>?_)
        · exact have h := iteT hc h; tR<|rM J J<|rF J J J<|rL J J .p0 J J<|n_buildSliceL (xs := ([v8.Until] : List Int).map I) J J J J J J<|bndE h fun l14 e3 h=>t_append (g := I) J J J J J J J J (.list _) e3 (fun _=>.p1) J fun b15=>rA J J<|rN<|ATodo.stop<|ImpX.lq [1] ⟨b15,l14,h,J⟩ J J
        · exact have h := iteF hc h; tK<|ATodo.stop<|ImpX.lq [1] ⟨b11,l10,h,J⟩ J J
      · rintro σ' ⟨b12, l13, h, rfl⟩
        unfold Q_signalMoments_j1 at h
        refine ATodo.blk<|tR<|ARun.qv (q_addw J J) J<|rM J J<|rN<|ATodo.stop<|?_
        obtain rfl := Option.some.inj h
        exact hJ1 _ _ J<|ImpX.lq [0] ⟨b12,J⟩ J J
    · refine have h := iteF hc h; ATodo.exit J<|have h := outL h hA1; ?_
      unfold Q_signalMoments_k2 at h
      refine tSR<|rM J J<|bndE h fun v16 e4 h=>t_call0 J (slices_Sort_int_int_c (lenOk_f e4)) (CoL.refl _) (.cons .p0 .nil) J J<|ARun.ghost<|ImpX.eqs (s := 3) (av' := .sl 1 b5 0 v16.length) J (congrArg (AV.sl 1 b5 0) (lenOk_l e4))<|ImpX.here<|ARun.ghost<|ImpX.eqs (s := 27) (av' := .sl 1 b5 0 v16.length) J (congrArg (AV.sl 1 b5 0) (lenOk_l e4))<|ImpX.here<|rN<|tSR<|rM J J<|bndE h fun v17 e5 h=>t_call1 J (slices_Compact_int_int_c e5) (CoL.refl _) (.cons .p0 .nil) (fun _=>J) J fun b18=>rA J J<|rN<|ATodo.ret<|?_
      obtain rfl := Option.some.inj h
      exact ImpX.here ⟨_,.cons (.tmp _ _ J) .nil,_,.cons .p0 .nil,⟨b18,J,J⟩⟩

theorem Q_tracksAt_1x_c [GI : GTab] {p0x0 : Fleetref1_track} {p1x0 : Signal} {r : Bool} (h : Q_tracksAt_1x p0x0 p1x0 = r) : Pu Tryz.prog 155 [.rptr [.str p0x0.device_,.str p0x0.rule_,lE2 p0x0.done_,I p0x0.state_,I p0x0.shelved_.From,I p0x0.shelved_.To],.rptr [I p1x0.At,I p1x0.Kind,.str p1x0.Device,.str p1x0.Rule,.str p1x0.By,I p1x0.Until]] (.bool r) := by
  unfold Q_tracksAt_1x at h
  refine ACall.bodyN Tryz.func155 J Tryz.ntmps155 Tryz.results155 J J ?_
  refine tSR<|rA J J<|rN<|tS<|ATodo.cut (fun σ'=>∃ (c1 : Bool),Q_tracksAt_1x_j1 c1 = r ∧ σ' = ⟨20,[(3,.bool c1)],[]⟩) ?_ ?_
  · refine ATodo.regionM (id := 1) (A := [0,1,3,7,0,16,63,127,255,511,1023,2047,255,4351,16383,32767,65535]) 17 mixed J (by kernel_rfl) (by kernel_rfl)<|AM.qv (q_move J) J<|AM.qv (q_nilCheck_rptr J) J<|AM.qv (n_field_rptr J J) J<|AM.qv (q_load_rptr J J J) J<|AM.qv (n_field_rptr J J) J<|AM.qv (q_load_rptr J J J) J<|AM.qv (q_seq J J) J<|AM.qv (q_move J) J<|AM.guard_dt J J J (fun hc=>?_) (fun hc=>?_)
    · rw [andTd hc] at h
      exact AM.qv (q_move J) J<|AM.guard_yes J J J<|AM.qv (q_nilCheck_rptr J) J<|AM.guard_yes J J J<|AM.qv (n_field_rptr J J) J<|AM.guard_yes J J J<|AM.qv (q_load_rptr J J J) J<|AM.guard_yes J J J<|AM.qv (n_field_rptr J J) J<|AM.guard_yes J J J<|AM.qv (q_load_rptr J J J) J<|AM.guard_yes J J J<|AM.qv (q_seq J J) J<|AM.qv (q_pick_t J J) J<|AM.qv (q_assign J) J<|AM.nil<|rN<|ATodo.stop<|ImpX.lq [] ⟨decide (p0x0.rule_ = p1x0.Rule),h,J⟩ J J
    · rw [andFd hc] at h
      exact AM.guard_no J J J J<|AM.guard_no J J J J<|AM.guard_no J J J J<|AM.guard_no J J J J<|AM.guard_no J J J J<|AM.guard_no J J J J<|AM.qv (q_pick_f J J) J<|AM.qv (q_assign J) J<|AM.nil<|rN<|ATodo.stop<|ImpX.lq [] ⟨false,h,J⟩ J J
  · rintro σ' ⟨c1, h, rfl⟩
    unfold Q_tracksAt_1x_j1 at h
    refine ATodo.ret<|?_
    obtain rfl := h
    exact ImpX.here ⟨_,.cons (.tmp _ _ J) .nil,J⟩

theorem slices_IndexFunc__Q_track_Q_track_c [GI : GTab] {p0x0 : List Fleetref1_track} {fnb : Fleetref1_track → Option Bool} {fnb_F : FuncId} [IsFn Tryz.prog fnb_F] {fnb_C : List AV} (fnb_h : ∀ {y0 : _} {u : Bool},fnb y0 = some u → Pu Tryz.prog fnb_F (.rptr [.str y0.device_,.str y0.rule_,lE2 y0.done_,I y0.state_,I y0.shelved_.From,I y0.shelved_.To] ::  fnb_C) (.bool u)) {r : Int} (h : slices_IndexFunc__Q_track_Q_track p0x0 fnb = some r) : Pu Tryz.prog 154 [lE4 p0x0,.func (.func fnb_F) fnb_C] (I r) := by
  unfold slices_IndexFunc__Q_track_Q_track at h
  refine ACall.bodyN Tryz.func154 J Tryz.ntmps154 Tryz.results154 J J ?_
  refine tSR<|rA J J<|rN<|tS<|tSR<|rM J J<|ARun.qv (t_len J) J<|rM J J<|rN<|ATodo.block<|ATodo.loopI (fun x : Int=>slices_IndexFunc__Q_track_Q_track_b1 p0x0 fnb x) (fun x σ'=>σ' = ⟨19,[(0,lE4 p0x0),(1,.func (.func fnb_F) fnb_C),(7,I (p0x0.length : Int)),(8,I x)],[]⟩) h ?_ ?_
  · exact ImpX.lq [] J J J
  · intro n2 z1 σ' J1 hmk h hJ1 hA1
    obtain rfl := hmk
    replace h : slices_IndexFunc__Q_track_Q_track_b1 p0x0 fnb n2 = some z1 := h
    unfold slices_IndexFunc__Q_track_Q_track_b1 at h
    refine tSR<|ARun.qv (q_lss J J) J<|rN<|tS<|ATodo.cond_d J (fun hc=>?_) (fun hc=>?_)
    · refine have h := iteT hc h; tK<|tS<|ATodo.block<|tSR<|rM J J<|rA J J<|rN<|tSR<|rM J J<|rM J J<|rM J J<|bndE h fun v3 e1 h=>ARun.qv (t_index J J J e1 J J) J<|ARun.qv (q_load_rptr J J J) J<|bndE h fun v4 e2 h=>r_callvp J J (fnb_h e2) (CoL.refl _) J<|rN<|ATodo.cond J (fun hc=>?_) (fun hc=>?_)
      · refine have h := iteT hc h; tSR<|rM J J<|rA J J<|rN<|ATodo.ret<|have h := outL h hA1; ?_
        obtain rfl := Option.some.inj h
        exact ImpX.here ⟨_,.cons (.tmp _ _ J) .nil,J⟩
      · refine have h := iteFb hc h; tK<|ATodo.blk<|tR<|ARun.qv (q_addw J J) J<|rM J J<|rN<|ATodo.stop<|?_
        obtain rfl := Option.some.inj h
        exact hJ1 _ _ J<|ImpX.lq [] J J J
    · refine have h := iteF hc h; ATodo.exit J<|have h := outL h hA1; tSR<|rA J J<|rN<|ATodo.ret<|?_
      obtain rfl := Option.some.inj h
      exact ImpX.here ⟨_,.cons (.tmp _ _ J) .nil,J⟩

theorem Q_track_step_c [GI : GTab] {b_0 : Bk} {b_0x2 : Bk} {p0x0 : Fleetref1_track} {p1x0 : Signal} {r : Int × Fleetref1_track} (h : Q_track_step p0x0 p1x0 = some r) : ACall Tryz.prog 156 [.ptr b_0 0,Signal.av p1x0] [(b_0,.cells [.str p0x0.device_,.str p0x0.rule_,.sl 6 b_0x2 0 p0x0.done_.length,I p0x0.state_,I p0x0.shelved_.From,I p0x0.shelved_.To]),(b_0x2,aE2 p0x0.done_)] (T1 (fun c_0x2=>[(b_0,.cells [.str r.2.device_,.str r.2.rule_,.sl 6 c_0x2 0 r.2.done_.length,I r.2.state_,I r.2.shelved_.From,I r.2.shelved_.To]),(c_0x2,aE2 r.2.done_)]) (fun c_0x2=>I r.1)) := by
  unfold Q_track_step at h
  refine ACall.lessH ?_
  refine ACall.bodyN Tryz.func156 J Tryz.ntmps156 Tryz.results156 J J ?_
  refine tSR<|n_box J J J J fun b1=>rA J J<|rN<|tS<|ATodo.cut (fun σ'=>∃ (c2 : Bool),Q_track_step_j1 p0x0 p1x0 c2 = some r ∧ σ' = ⟨110,[(0,.ptr b_0 0),(3,.ptr b1 0),(5,.bool c2)],[(b_0,.cells [.str p0x0.device_,.str p0x0.rule_,.sl 6 b_0x2 0 p0x0.done_.length,I p0x0.state_,I p0x0.shelved_.From,I p0x0.shelved_.To]),(b_0x2,aE2 p0x0.done_),(b1,.cells (cE0 p1x0))]⟩) ?_ ?_
  · refine tR<|rM J J<|ARun.qv (q_nilCheck_ptr J) J<|rF J J J<|rL J J .p1 J J<|ARun.qv (q_eql J J) J<|rM J J<|ARun.guard_df J J J (fun hc=>?_) (fun hc=>?_)
    · rw [orFd hc] at h
      exact rM J J<|rY J J J<|ARun.qv (q_nilCheck_ptr J) J<|rY J J J<|rF J J J<|rY J J J<|rL J J .p1 J J<|rY J J J<|ARun.qv (q_eql J J) J<|rE J J J<|rA J J<|rN<|ATodo.stop<|ImpX.lq [1,1,0] ⟨decide (p0x0.state_ = (2 : Int)),h,J⟩ J J
    · rw [orTd hc] at h
      exact rG J J J J<|rG J J J J<|rG J J J J<|rG J J J J<|rT J J J<|rA J J<|rN<|ATodo.stop<|ImpX.lq [1,1,0] ⟨true,h,J⟩ J J
  · rintro σ' ⟨c2, h, rfl⟩
    unfold Q_track_step_j1 at h
    refine tS<|ATodo.cut (fun σ'=>∃ (c3 : Bool),Q_track_step_j2 p0x0 p1x0 c2 c3 = some r ∧ σ' = ⟨110,[(0,.ptr b_0 0),(3,.ptr b1 0),(5,.bool c2),(6,.bool c3)],[(b_0,.cells [.str p0x0.device_,.str p0x0.rule_,.sl 6 b_0x2 0 p0x0.done_.length,I p0x0.state_,I p0x0.shelved_.From,I p0x0.shelved_.To]),(b_0x2,aE2 p0x0.done_),(b1,.cells (cE0 p1x0))]⟩) ?_ ?_
    · refine ATodo.regionM (id := 2) (A := [0,1,3,7,15,0,32,127,255,511,1023,511,2559,6655,14847,31231,65535,131071,262143]) 19 mixed J (by kernel_rfl) (by kernel_rfl)<|AM.qv (q_move J) J<|AM.qv (q_nilCheck_ptr J) J<|AM.qv (n_field_ptr J J) J<|AM.qv (n_field_ptr J J) J<|AM.qv (q_load_ptr J J .p0 J) J<|AM.qv (n_field_ptr J J) J<|AM.qv (q_load_ptr J J .p2 J) J<|AM.qv (q_leq J J) J<|AM.qv (q_move J) J<|AM.guard_dt J J J (fun hc=>?_) (fun hc=>?_)
      · rw [andTd hc] at h
        exact AM.qv (n_field_ptr J J) J<|AM.guard_yes J J J<|AM.qv (q_load_ptr J J .p2 J) J<|AM.guard_yes J J J<|AM.qv (q_move J) J<|AM.guard_yes J J J<|AM.qv (q_nilCheck_ptr J) J<|AM.guard_yes J J J<|AM.qv (n_field_ptr J J) J<|AM.guard_yes J J J<|AM.qv (n_field_ptr J J) J<|AM.guard_yes J J J<|AM.qv (q_load_ptr J J .p0 J) J<|AM.guard_yes J J J<|AM.qv (q_lss J J) J<|AM.qv (q_pick_t J J) J<|AM.qv (q_assign J) J<|AM.nil<|rN<|ATodo.stop<|ImpX.lq [0,0,0] ⟨decide (p1x0.At < p0x0.shelved_.To),h,J⟩ J J
      · rw [andFd hc] at h
        exact AM.guard_no J J J J<|AM.guard_no J J J J<|AM.guard_no J J J J<|AM.guard_no J J J J<|AM.guard_no J J J J<|AM.guard_no J J J J<|AM.guard_no J J J J<|AM.qv (q_pick_f J J) J<|AM.qv (q_assign J) J<|AM.nil<|rN<|ATodo.stop<|ImpX.lq [0,0,0] ⟨false,h,J⟩ J J
    · rintro σ' ⟨c3, h, rfl⟩
      unfold Q_track_step_j2 at h
      refine tS<|tSR<|rF J J J<|rL J J .p2 J J<|rN<|ATodo.block<|tSR<|ARun.qv (q_eql J J) J<|rA J J<|rN<|ATodo.cut (fun σ'=>∃ (n4 : Int) (n5 : Int) (n6 : Int),Q_track_step_j3 p0x0 p1x0 n4 n5 n6 = some r ∧ σ' = ⟨110,[(0,.ptr b_0 0),(3,.ptr b1 0)],[(b_0,.cells [.str p0x0.device_,.str p0x0.rule_,.sl 6 b_0x2 0 p0x0.done_.length,I n4,I n5,I n6]),(b_0x2,aE2 p0x0.done_),(b1,.cells (cE0 p1x0))]⟩) ?_ ?_
      · refine ATodo.cond_d J (fun hc=>?_) (fun hc=>?_)
        · refine have h := iteT hc h; tS<|tSR<|rM J J<|rN<|ATodo.cond J (fun hc=>?_) (fun hc=>?_)
          · refine have h := iteT hc h; tSR<|rA J J<|rN<|ATodo.ret<|?_
            obtain rfl := Option.some.inj h
            exact ImpX.here ⟨_,.cons (.tmp _ _ J) .nil,_,.cons .p0 (.cons .p0 .nil),⟨b_0x2,J,J⟩⟩
          · exact have h := iteFb hc h; tK<|tR<|rM J J<|ARun.qv (q_nilCheck_ptr J) J<|rF J J J<|n_store_ptr J J J J .p0 J J<|rN<|ATodo.stop<|ImpX.lq [0,0,0] ⟨(1 : Int),p0x0.shelved_.From,p0x0.shelved_.To,h,J⟩ J J
        · refine have h := iteF hc h; tSR<|ARun.qv (q_eql J J) J<|rA J J<|rN<|ATodo.cut (fun σ'=>∃ (n7 : Int) (n8 : Int) (n9 : Int),Q_track_step_j4 p0x0 p1x0 n7 n8 n9 = some r ∧ σ' = ⟨110,[(0,.ptr b_0 0),(3,.ptr b1 0)],[(b_0,.cells [.str p0x0.device_,.str p0x0.rule_,.sl 6 b_0x2 0 p0x0.done_.length,I n7,I n8,I n9]),(b_0x2,aE2 p0x0.done_),(b1,.cells (cE0 p1x0))]⟩) ?_ ?_
          · refine ATodo.cond_d J (fun hc=>?_) (fun hc=>?_)
            · refine have h := iteT hc h; tS<|tSR<|rM J J<|ARun.qv (q_not J) J<|rN<|ATodo.cond J (fun hc=>?_) (fun hc=>?_)
              · refine have h := iteT hc h; tSR<|rA J J<|rN<|ATodo.ret<|?_
                obtain rfl := Option.some.inj h
                exact ImpX.here ⟨_,.cons (.tmp _ _ J) .nil,_,.cons .p0 (.cons .p0 .nil),⟨b_0x2,J,J⟩⟩
              · exact have h := iteFb hc h; tK<|tR<|rM J J<|t_makeMap J fun b10=>t_insert (gk := I) (gv := I) (M := ([] : List (Int × Int))) (key := (1 : Int)) (v := (3 : Int)) J J J J .p0<|t_insert (gk := I) (gv := I) (M := (mset ([] : List (Int × Int)) (1 : Int) (3 : Int))) (key := (2 : Int)) (v := (0 : Int)) J J J J .p0<|rM J J<|rM J J<|ARun.qv (q_nilCheck_ptr J) J<|rF J J J<|rL J J .p1 J J<|bndE h fun v11 e1 h=>ARun.qv (t_lookup (gk := I) (gv := I) (M := (mset (mset ([] : List (Int × Int)) (1 : Int) (3 : Int)) (2 : Int) (0 : Int))) (key := p0x0.state_) (Z := (0 : Int)) J J .p0 J J J e1 J) J<|ARun.qv (q_nilCheck_ptr J) J<|rF J J J<|n_store_ptr J J J J .p1 J J<|rN<|ATodo.stop<|ImpX.lq [1,1,1] ⟨v11,p0x0.shelved_.From,p0x0.shelved_.To,h,J⟩ J J
            · refine have h := iteF hc h; tSR<|ARun.qv (q_eql J J) J<|rA J J<|rN<|ATodo.cut (fun σ'=>∃ (n12 : Int) (n13 : Int) (n14 : Int),Q_track_step_j5 p0x0 p1x0 n12 n13 n14 = some r ∧ σ' = ⟨110,[(0,.ptr b_0 0),(3,.ptr b1 0)],[(b_0,.cells [.str p0x0.device_,.str p0x0.rule_,.sl 6 b_0x2 0 p0x0.done_.length,I n12,I n13,I n14]),(b_0x2,aE2 p0x0.done_),(b1,.cells (cE0 p1x0))]⟩) ?_ ?_
              · refine ATodo.cond_d J (fun hc=>?_) (fun hc=>?_)
                · refine have h := iteT hc h; tS<|tS<|ATodo.cut (fun σ'=>∃ (c15 : Bool),Q_track_step_j6 p0x0 p1x0 c15 = some r ∧ σ' = ⟨110,[(0,.ptr b_0 0),(3,.ptr b1 0),(78,.bool c15)],[(b_0,.cells [.str p0x0.device_,.str p0x0.rule_,.sl 6 b_0x2 0 p0x0.done_.length,I p0x0.state_,I p0x0.shelved_.From,I p0x0.shelved_.To]),(b_0x2,aE2 p0x0.done_),(b1,.cells (cE0 p1x0))]⟩) ?_ ?_
                  · refine tR<|rM J J<|ARun.qv (q_nilCheck_ptr J) J<|rF J J J<|rL J J .p0 J J<|ARun.qv (q_neq J J) J<|rM J J<|ARun.guard_dt J J J (fun hc=>?_) (fun hc=>?_)
                    · rw [andTd hc] at h
                      exact rM J J<|rY J J J<|ARun.qv (q_nilCheck_ptr J) J<|rY J J J<|rF J J J<|rY J J J<|rL J J .p0 J J<|rY J J J<|ARun.qv (q_neq J J) J<|rT J J J<|rN<|ATodo.stop<|ImpX.lq [0,0,0] ⟨decide (p0x0.state_ ≠ (3 : Int)),h,J⟩ J J
                    · rw [andFd hc] at h
                      exact rG J J J J<|rG J J J J<|rG J J J J<|rG J J J J<|rE J J J<|rN<|ATodo.stop<|ImpX.lq [0,0,0] ⟨false,h,J⟩ J J
                  · rintro σ' ⟨c15, h, rfl⟩
                    unfold Q_track_step_j6 at h
                    refine ATodo.cond J (fun hc=>?_) (fun hc=>?_)
                    · refine have h := iteT hc h; tSR<|rA J J<|rN<|ATodo.ret<|?_
                      obtain rfl := Option.some.inj h
                      exact ImpX.here ⟨_,.cons (.tmp _ _ J) .nil,_,.cons .p0 (.cons .p0 .nil),⟨b_0x2,J,J⟩⟩
                    · exact have h := iteFb hc h; tK<|tR<|rM J J<|t_makeMap J fun b16=>t_insert (gk := I) (gv := I) (M := ([] : List (Int × Int))) (key := (1 : Int)) (v := (2 : Int)) J J J J .p0<|t_insert (gk := I) (gv := I) (M := (mset ([] : List (Int × Int)) (1 : Int) (2 : Int))) (key := (3 : Int)) (v := (0 : Int)) J J J J .p0<|rM J J<|rM J J<|ARun.qv (q_nilCheck_ptr J) J<|rF J J J<|rL J J .p1 J J<|bndE h fun v17 e2 h=>ARun.qv (t_lookup (gk := I) (gv := I) (M := (mset (mset ([] : List (Int × Int)) (1 : Int) (2 : Int)) (3 : Int) (0 : Int))) (key := p0x0.state_) (Z := (0 : Int)) J J .p0 J J J e2 J) J<|ARun.qv (q_nilCheck_ptr J) J<|rF J J J<|n_store_ptr J J J J .p1 J J<|rN<|ATodo.stop<|ImpX.lq [1,1,1] ⟨v17,p0x0.shelved_.From,p0x0.shelved_.To,h,J⟩ J J
                · refine have h := iteF hc h; tSR<|ARun.qv (q_eql J J) J<|rA J J<|rN<|ATodo.cut (fun σ'=>∃ (n18 : Int) (n19 : Int),Q_track_step_j7 p0x0 p1x0 n18 n19 = some r ∧ σ' = ⟨110,[(0,.ptr b_0 0),(3,.ptr b1 0)],[(b_0,.cells [.str p0x0.device_,.str p0x0.rule_,.sl 6 b_0x2 0 p0x0.done_.length,I p0x0.state_,I n18,I n19]),(b_0x2,aE2 p0x0.done_),(b1,.cells (cE0 p1x0))]⟩) ?_ ?_
                  · refine ATodo.cond_d J (fun hc=>?_) (fun hc=>?_)
                    · refine have h := iteT hc h; tS<|tSR<|rM J J<|rN<|ATodo.cond J (fun hc=>?_) (fun hc=>?_)
                      · refine have h := iteT hc h; tSR<|rA J J<|rN<|ATodo.ret<|?_
                        obtain rfl := Option.some.inj h
                        exact ImpX.here ⟨_,.cons (.tmp _ _ J) .nil,_,.cons .p0 (.cons .p0 .nil),⟨b_0x2,J,J⟩⟩
                      · exact have h := iteFb hc h; tK<|tR<|rM J J<|rF J J J<|rL J J .p2 J J<|rF J J J<|rL J J .p2 J J<|ARun.qv (n_build J J J J J) J<|ARun.qv (q_nilCheck_ptr J) J<|rF J J J<|n_store_ptr J J J J .p0 J J<|rN<|ATodo.stop<|ImpX.lq [0,0,0] ⟨p1x0.At,p1x0.Until,h,J⟩ J J
                    · refine have h := iteF hc h; tS<|tSR<|rM J J<|ARun.qv (q_not J) J<|rN<|ATodo.cond J (fun hc=>?_) (fun hc=>?_)
                      · refine have h := iteT hc h; tSR<|rA J J<|rN<|ATodo.ret<|?_
                        obtain rfl := Option.some.inj h
                        exact ImpX.here ⟨_,.cons (.tmp _ _ J) .nil,_,.cons .p0 (.cons .p0 .nil),⟨b_0x2,J,J⟩⟩
                      · exact have h := iteFb hc h; tK<|tR<|rM J J<|ARun.qv (n_build J J J J J) J<|ARun.qv (q_nilCheck_ptr J) J<|rF J J J<|n_store_ptr J J J J .p0 J J<|rN<|ATodo.stop<|ImpX.lq [0,0,0] ⟨(0 : Int),(0 : Int),h,J⟩ J J
                  · rintro σ' ⟨n18, n19, h, rfl⟩
                    unfold Q_track_step_j7 at h
                    exact ATodo.stop<|ImpX.lq [0,0,0] ⟨p0x0.state_,n18,n19,h,J⟩ J J
              · rintro σ' ⟨n12, n13, n14, h, rfl⟩
                unfold Q_track_step_j5 at h
                exact ATodo.stop<|ImpX.lq [0,0,0] ⟨n12,n13,n14,h,J⟩ J J
          · rintro σ' ⟨n7, n8, n9, h, rfl⟩
            unfold Q_track_step_j4 at h
            exact ATodo.stop<|ImpX.lq [0,0,0] ⟨n7,n8,n9,h,J⟩ J J
      · rintro σ' ⟨n4, n5, n6, h, rfl⟩
        unfold Q_track_step_j3 at h
        refine ATodo.blk<|tS<|bndE h fun l20 e3 h=>ATodo.regionT (id := 23) (A := [0,0,2,6,14,0,32,126,255,511,1023]) (H0 := [(b_0x2,aE2 p0x0.done_)]) (HH := fun β=>[((β 7),aE2 l20),(b_0,.cells [.str p0x0.device_,.str p0x0.rule_,.sl 6 b_0x2 0 p0x0.done_.length,I n4,I n5,I n6]),(b1,.cells (cE0 p1x0))]) 8 mixed J (by kernel_rfl) (by kernel_rfl) [⟨none,some 7,[],fun _=>(b_0x2,aE2 p0x0.done_),none,[]⟩,⟨some 7,none,[],fun b=>(b,aE2 l20),none,[]⟩] [7] J (by kernel_rfl) J (.cons .p1 .nil) (fun _=>J)<|AT.am 7 J J<|AM.qv (q_move J) J<|AM.qv (q_move J) J<|AM.qv (q_nilCheck_ptr J) J<|AM.qv (n_field_ptr J J) J<|AM.qv (q_load_ptr J J .p0 J) J<|AM.qv (q_load_ptr_all J J .p1 J) J<|AM.buildSliceL (xs := ([p1x0] : List Signal).map Signal.av) J J J J J J<|AM.nil<|AT.runD (V := fun b=>.sl 6 b 0 l20.length) (Ti := [(b_0x2,aE2 p0x0.done_)]) (Pi := fun b=>[(b,aE2 l20)]) (fun _=>J) (fun _=>J) (fun _ _=>J) J (fun _=>J) J J J ?_ ?_
        · exact t_append (g := Signal.av) J J J J J J J J (.list _) e3 (fun _=>.p0) J fun b21=>ARun.nil ⟨b21,_,J,J⟩
        refine AT.nilN (fun _=>J) fun β=>?_
        generalize β 7 = b21
        clear β
        refine ARun.qv (q_nilCheck_ptr J) J<|rF J J J<|n_store_ptr J J J J .p1 J J<|rN<|tSR<|rA J J<|rN<|ATodo.ret<|?_
        obtain rfl := Option.some.inj h
        exact ImpX.here ⟨_,.cons (.tmp _ _ J) .nil,_,.cons .p1 (.cons .p0 .nil),⟨b21,J,J⟩⟩

theorem Q_tracksAt_2x_c [GI : GTab] {p0x0 : Fleetref1_track} {p1x0 : Fleetref1_track} {r : Int} (h : Q_tracksAt_2x p0x0 p1x0 = some r) : Pu Tryz.prog 158 [.rptr [.str p0x0.device_,.str p0x0.rule_,lE2 p0x0.done_,I p0x0.state_,I p0x0.shelved_.From,I p0x0.shelved_.To],.rptr [.str p1x0.device_,.str p1x0.rule_,lE2 p1x0.done_,I p1x0.state_,I p1x0.shelved_.From,I p1x0.shelved_.To]] (I r) := by
  unfold Q_tracksAt_2x at h
  refine ACall.bodyN Tryz.func158 J Tryz.ntmps158 Tryz.results158 J J ?_
  refine tSR<|rA J J<|rN<|tS<|ATodo.regionM (id := 1) (A := [0,1,3,7,0,16,48,112,255,0,512,1536,3584,0,8192,24576,57344,131071,262143,524287,1048575]) 21 mixed J (by kernel_rfl) (by kernel_rfl)<|AM.qv (q_move J) J<|AM.qv (q_nilCheck_rptr J) J<|AM.qv (n_field_rptr J J) J<|AM.qv (q_load_rptr J J J) J<|AM.qv (q_move J) J<|AM.qv (q_nilCheck_rptr J) J<|AM.qv (n_field_rptr J J) J<|AM.qv (q_load_rptr J J J) J<|AM.callp J (strings_Compare_c J) (CoL.refl _) J<|AM.qv (q_move J) J<|AM.qv (q_nilCheck_rptr J) J<|AM.qv (n_field_rptr J J) J<|AM.qv (q_load_rptr J J J) J<|AM.qv (q_move J) J<|AM.qv (q_nilCheck_rptr J) J<|AM.qv (n_field_rptr J J) J<|AM.qv (q_load_rptr J J J) J<|AM.callp J (strings_Compare_c J) (CoL.refl _) J<|AM.buildSliceL (xs := ([(Lib.compareBytes p0x0.device_ p1x0.device_),(Lib.compareBytes p0x0.rule_ p1x0.rule_)] : List Int).map I) J J J J J J<|bndE h fun v1 e1 h=>AM.callp J (cmp_Or_int_c e1) (CoL.refl _) J<|AM.qv (q_assign J) J<|AM.nil<|rN<|ATodo.ret<|?_
  obtain rfl := Option.some.inj h
  exact ImpX.here ⟨_,.cons (.tmp _ _ J) .nil,J⟩

theorem slices_SortFunc__Q_track_Q_track_k : SortP Tryz.prog 157 := ⟨fun enc h1 cf hO g cb blk off cap d w eg hc hH hb hs=>Any.slices_SortFunc_eq Tryz.sortP157 enc h1 cf hO g cb blk off cap d w eg hc hH hb hs,fun p cap fv w=>AnyF.slices_SortFunc_none { Tryz.sortP157 with } p cap fv w⟩

theorem Q_tracksAt_c [GI : GTab] {p0x0 : List Signal} {p1x0 : Int} {r : (List Fleetref1_track) × (List Refused)} (h : Q_tracksAt p0x0 p1x0 = some r) : ACall Tryz.prog 93 [lE2 p0x0,I p1x0] [] (T1 (fun d_1=>[(d_1,aE5 r.2)]) (fun d_1=>.tup [lE4 r.1,.sl 2 d_1 0 r.2.length])) := by
  unfold Q_tracksAt at h
  refine ACall.lessH ?_
  refine ACall.bodyN Tryz.func93 J Tryz.ntmps93 Tryz.results93 J J ?_
  refine ATodo.ghost (ImpX.poolNew (kb := kE1) (fun b1 bo2 bs3=>ImpX.here ?_))
  refine tSR<|rA J J<|rA J J<|rN<|tSR<|rA J J<|rN<|tSR<|rA J J<|rN<|tS<|tSR<|rM J J<|ARun.qv (t_len J) J<|rM J J<|rN<|ATodo.cut (fun σ'=>∃ (bo5 : Nat → Bk) (bs6 : Nat → Nat → Bk) (b7 : Bk) (b9 : Bk) (l4 : List Fleetref1_track) (l8 : List Int) (l10 : List Refused),Q_tracksAt_j1 l4 l8 l10 = some r ∧ σ' = ⟨58,[(6,.sl 1 b7 0 l8.length),(7,.sl 2 b9 0 l10.length)],[(b1,.pool (araE kE1 bo5 bs6 l4)),(b7,.arr 1 (l8.map (pA bo5))),(b9,aE5 l10)]⟩) ?_ ?_
  · refine ATodo.block<|ATodo.loopI (fun x : (List Fleetref1_track) × (List Int) × (List Refused) × Int=>Q_tracksAt_b1 p0x0 p1x0 x.1 x.2.1 x.2.2.1 x.2.2.2) (fun x σ'=>∃ (bo20 : Nat → Bk) (bs21 : Nat → Nat → Bk) (b22 : Bk) (b24 : Bk),σ' = ⟨58,[(1,I p1x0),(6,.sl 1 b22 0 x.2.1.length),(7,.sl 2 b24 0 x.2.2.1.length),(12,lE2 p0x0),(13,I (p0x0.length : Int)),(14,I x.2.2.2)],[(b1,.pool (araE kE1 bo20 bs21 x.1)),(b22,.arr 1 (x.2.1.map (pA bo20))),(b24,aE5 x.2.2.1)]⟩) h ?_ ?_
    · exact ImpX.arr (s := 6) 1 J fun b27=>ImpX.arr (s := 7) 2 J fun b28=>ImpX.lq [2,1,0] ⟨bo2,bs3,b27,b28,J⟩ J J
    · intro x z1 σ' J1 hmk h hJ1 hA1
      obtain ⟨l19, l23, l25, n26⟩ := x
      obtain ⟨bo20, bs21, b22, b24, rfl⟩ := hmk
      replace h : Q_tracksAt_b1 p0x0 p1x0 l19 l23 l25 n26 = some z1 := h
      unfold Q_tracksAt_b1 at h
      refine tSR<|ARun.qv (q_lss J J) J<|rN<|tS<|ATodo.cond_d J (fun hc=>?_) (fun hc=>?_)
      · refine have h := iteT hc h; tK<|tS<|ATodo.block<|tSR<|rM J J<|bndE h fun v29 e1 h=>ARun.qv (t_index J J J e1 J J) J<|ARun.qv (q_load_rptr_agg J J J) J<|n_alloc J J J J fun b30=>rA J J<|n_store_ptr J J J J .p0 J J<|rN<|tS<|tSR<|rF J J J<|rL J J .p0 J J<|rM J J<|ARun.qv (q_gtr J J) J<|rN<|ATodo.cond_d J (fun hc=>?_) (fun hc=>?_)
        · exact have h := iteT hc h; ATodo.exit J<|have h := outL h hA1; ATodo.stop<|ImpX.lq [1,1,1] ⟨bo20,bs21,b22,b24,l19,l23,l25,h,J⟩ J J
        · refine have h := iteF hc h; tK<|tSR<|rM J J<|ARun.qv (q_makeFunc J) J<|bndE h fun l31 e2 h=>bndE h fun v32 e3 h=>r_callpB J (slices_IndexFunc__Q_track_Q_track_c (fun e=>Q_tracksAt_1x_c (Option.some.inj e)) e3) (.cons (CoB.araL (bp := b1) (kb := kE1) (bs := bs21) (M := l19) KB1 e2 (.inl .p2) .p1) (.cons (.funcL _ _ _ (.cons (.boxL _ _ _ .p0 (.cons (.co (.refl _)) (.cons (.co (.refl _)) (.cons (.co (.refl _)) (.cons (.co (.refl _)) (.cons (.co (.refl _)) (.cons (.co (.refl _)) .nil))))))) .nil)) .nil)) J J<|rA J J<|rN<|tS<|tSR<|rM J J<|ARun.qv (q_lss J J) J<|rN<|ATodo.cut (fun σ'=>∃ (bo34 : Nat → Bk) (bs35 : Nat → Nat → Bk) (b36 : Bk) (l33 : List Fleetref1_track) (l37 : List Int) (n38 : Int),Q_tracksAt_j2 l25 n26 v29 l33 l37 n38 = some z1 ∧ σ' = ⟨58,[(1,I p1x0),(6,.sl 1 b36 0 l37.length),(7,.sl 2 b24 0 l25.length),(8,I n26),(9,.ptr b30 0),(10,I n38),(12,lE2 p0x0),(13,I (p0x0.length : Int)),(14,I n26)],[(b1,.pool (araE kE1 bo34 bs35 l33)),(b36,.arr 1 (l37.map (pA bo34))),(b24,aE5 l25),(b30,.cells (cE0 v29))]⟩) ?_ ?_
          · refine ATodo.cond_d J (fun hc=>?_) (fun hc=>?_)
            · exact have h := iteT hc h; tSR<|rM J J<|ARun.qv (t_len_sl J) J<|rA J J<|rN<|tR<|rM J J<|rF J J J<|rL J J .p0 J J<|rF J J J<|rL J J .p0 J J<|ARun.qv (n_build J J J J J) J<|n_box J J J J fun b39=>ARun.ghost<|ImpX.arrBox (j := 2) 6 (fun _=>.p0) J (fun _=>J) (fun _=>J) fun b40=>ImpX.here<|bndE h fun u41 e4 h=>ARun.ghost<|ImpX.araAddN (kb := kE1) (v := (⟨v29.Device,v29.Rule,[],(0 : Int),(⟨(0 : Int),(0 : Int)⟩ : Window)⟩ : Fleetref1_track)) (s := nbk [b40]) (.cons .p1 (.cons .p0 .nil)) J (fun _ _=>.p1) fun bo42 bs43 hEe5 hNe5=>ImpX.here<|ARun.ghost<|ImpX.obEq (re_arr hEe5 e4) .p2<|ImpX.here<|ARun.ghost<|ImpX.eqs (s := 36) (av' := .ptr (bo42 (l19.length : Int).toNat) 0) J (re_new hNe5 _)<|ImpX.here<|n_buildSliceL (xs := ([(l19.length : Int)]).map (pA bo42)) J J J J J J<|bndE h fun l44 e6 h=>t_append (g := (pA bo42)) J J J J J J J J (.list _) e6 (fun _=>.p2) J fun b45=>rA J J<|rN<|ATodo.stop<|ImpX.lq [1,1,1,0] ⟨bo42,bs43,b45,l19 ++ [(⟨v29.Device,v29.Rule,[],(0 : Int),(⟨(0 : Int),(0 : Int)⟩ : Window)⟩ : Fleetref1_track)],l44,(l23.length : Int),h,J⟩ J J
            · exact have h := iteF hc h; tK<|ATodo.stop<|ImpX.lq [1,1,1,0] ⟨bo20,bs21,b22,l19,l23,v32,h,J⟩ J J
          · rintro σ' ⟨bo34, bs35, b36, l33, l37, n38, h, rfl⟩
            unfold Q_tracksAt_j2 at h
            refine tS<|ATodo.regionM (id := 11) (A := [0,0,3,7,0,31,63]) 5 mixed J (by kernel_rfl) (by kernel_rfl)<|AM.qv (q_move J) J<|AM.qv (q_move J) J<|bndE h fun v46 e7 h=>AM.qv (t_index_sl J J J e7) J<|AM.qv (t_load_aptr (g := (pA bo34)) J J (.inl .p1) e7 J) J<|AM.qv (q_load_ptr_all J J .p3 J) J<|AM.nil<|bndE h fun v47 e8 h=>ARun.ghost<|ImpX.araTakeN (kb := kE1) e8 .p0 J<|ImpX.here<|bndE h fun v48 e9 h=>t_call1 J (Q_track_step_c e9) (CoL.refl _) (.cons .p0 (.cons .p0 .nil)) (fun _=>J) J fun b49=>rA J J<|ARun.ghost<|ImpX.araPutN (kb := kE1) (v' := v48.2) (s := nbk [b49]) e8 (.cons .p0 (.cons .p0 .nil)) J (fun _=>.p0) fun bs50=>ImpX.here<|rN<|tSR<|rM J J<|ARun.qv (q_neq J J) J<|rN<|ATodo.cut (fun σ'=>∃ (b51 : Bk) (l52 : List Refused),Q_tracksAt_j3 n26 l33 l37 v46 v48 l52 = some z1 ∧ σ' = ⟨58,[(1,I p1x0),(6,.sl 1 b36 0 l37.length),(7,.sl 2 b51 0 l52.length),(12,lE2 p0x0),(13,I (p0x0.length : Int)),(14,I n26)],[(b1,.pool (araE kE1 bo34 bs50 (l33.set v46.toNat v48.2))),(b36,.arr 1 (l37.map (pA bo34))),(b51,aE5 l52)]⟩) ?_ ?_
            · refine ATodo.cond_d J (fun hc=>?_) (fun hc=>?_)
              · exact have h := iteT hc h; tR<|rM J J<|rM J J<|rM J J<|ARun.qv (n_build J J J J J) J<|n_buildSliceL (xs := ([(⟨n26,v48.1⟩ : Refused)]).map Refused.av) J J J J J J<|bndE h fun l53 e10 h=>t_append (g := Refused.av) J J J J J J J J (.list _) e10 (fun _=>.p2) J fun b54=>rA J J<|rN<|ATodo.stop<|ImpX.lq [0,0,0] ⟨b54,l53,h,J⟩ J J
              · exact have h := iteF hc h; tK<|ATodo.stop<|ImpX.lq [0,0,0] ⟨b24,l25,h,J⟩ J J
            · rintro σ' ⟨b51, l52, h, rfl⟩
              unfold Q_tracksAt_j3 at h
              refine ATodo.blk<|tR<|ARun.qv (q_addw J J) J<|rM J J<|rN<|ATodo.stop<|?_
              obtain rfl := Option.some.inj h
              exact hJ1 _ _ J<|ImpX.lq [0,0,0] ⟨bo34,bs50,b36,b51,J⟩ J J
      · exact have h := iteF hc h; ATodo.exit J<|have h := outL h hA1; ATodo.stop<|ImpX.lq [0,0,0] ⟨bo20,bs21,b22,b24,l19,l23,l25,h,J⟩ J J
  · rintro σ' ⟨bo5, bs6, b7, b9, l4, l8, l10, h, rfl⟩
    unfold Q_tracksAt_j1 at h
    refine tSR<|rM J J<|bndE h fun l55 e11 h=>t_call0 J (sortA_acall slices_SortFunc__Q_track_Q_track_k KB1 (fun e=>Q_tracksAt_2x_c (GI := strongT) e) e11) (CoL.refl _) (.cons .p1 (.cons .p0 .nil)) J J<|ARun.ghost<|ImpX.eqs (s := 6) (av' := .sl 1 b7 0 l55.length) J (congrArg (AV.sl 1 b7 0) (sortA_len e11))<|ImpX.here<|ARun.ghost<|ImpX.eqs (s := 54) (av' := .sl 1 b7 0 l55.length) J (congrArg (AV.sl 1 b7 0) (sortA_len e11))<|ImpX.here<|rN<|tSR<|rM J J<|rM J J<|rA J J<|rA J J<|rN<|ATodo.ret<|bndE h fun l56 e12 h=>?_
    obtain rfl := Option.some.inj h
    exact ImpX.cobFrz (s := 4) J (.cons .p0 (.cons .p0 .nil)) (CoB.araL KB1 e12 (.inl .p0) .p1)<|ImpX.here ⟨_,.cons (.tmp _ _ J) (.cons (.tmp _ _ J) .nil),_,.cons .p0 .nil,⟨b9,J,J⟩⟩

theorem Q_track_alarm_c [GI : GTab] {p0x0 : Fleetref1_track} {p1x0 : Int} {r : Alarm} (h : Q_track_alarm p0x0 p1x0 = some r) : Pu Tryz.prog 96 [.rptr [.str p0x0.device_,.str p0x0.rule_,lE2 p0x0.done_,I p0x0.state_,I p0x0.shelved_.From,I p0x0.shelved_.To],I p1x0] (Alarm.av r) := by
  unfold Q_track_alarm at h
  refine ACall.bodyN Tryz.func96 J Tryz.ntmps96 Tryz.results96 J J ?_
  refine tSR<|n_alloc J J J J fun b1=>rN<|tS<|ATodo.regionT (id := 1) (A := [0,1,3,7,0,16,48,112,0,256,768,1792,4095,0,16383]) (H0 := []) (HH := fun β=>[((β 13),.cells [.str [],.str [],I (0 : Int),I (0 : Int),I (0 : Int),I (0 : Int)]),(b1,.cells [.str [],.str [],I (0 : Int),I (0 : Int),I (0 : Int),I (0 : Int)])]) 14 mixed J (by kernel_rfl) (by kernel_rfl) [⟨some 13,none,[],fun b=>(b,.cells [.str [],.str [],I (0 : Int),I (0 : Int),I (0 : Int),I (0 : Int)]),none,[]⟩] [13] J (by kernel_rfl) J .nil (fun _=>J)<|AT.am 13 J J<|AM.qv (q_move J) J<|AM.qv (q_nilCheck_rptr J) J<|AM.qv (n_field_rptr J J) J<|AM.qv (q_load_rptr J J J) J<|AM.qv (q_move J) J<|AM.qv (q_nilCheck_rptr J) J<|AM.qv (n_field_rptr J J) J<|AM.qv (q_load_rptr J J J) J<|AM.qv (q_move J) J<|AM.qv (q_nilCheck_rptr J) J<|AM.qv (n_field_rptr J J) J<|AM.qv (q_load_rptr J J J) J<|AM.qv (n_build J J J J J) J<|AM.nil<|AT.runD (V := fun b=>.ptr b 0) (Ti := []) (Pi := fun b=>[(b,.cells [.str [],.str [],I (0 : Int),I (0 : Int),I (0 : Int),I (0 : Int)])]) (fun _=>J) (fun _=>J) (fun _ _=>J) J (fun _=>J) J J J ?_ ?_
  · exact n_alloc J J J J fun b2=>ARun.nil ⟨b2,_,J,J⟩
  refine AT.nilN (fun _=>J) fun β=>?_
  generalize β 13 = b2
  clear β
  refine n_store_ptr J J J J .p0 J J<|rN<|tS<|tSR<|rM J J<|ARun.qv (q_nilCheck_rptr J) J<|ARun.qv (n_field_rptr J J) J<|ARun.qv (q_load_rptr J J J) J<|ARun.qv (t_len J) J<|rM J J<|rN<|ATodo.block<|ATodo.loopI (fun x : Int × Int × Int=>Q_track_alarm_b1 p0x0 p1x0 x.1 x.2.1 x.2.2) (fun x σ'=>σ' = ⟨67,[(0,.rptr [.str p0x0.device_,.str p0x0.rule_,lE2 p0x0.done_,I p0x0.state_,I p0x0.shelved_.From,I p0x0.shelved_.To]),(1,I p1x0),(4,.ptr b1 0),(5,.ptr b2 0),(24,lE2 p0x0.done_),(25,I (p0x0.done_.length : Int)),(26,I x.2.2)],[(b1,.cells [.str [],.str [],I (0 : Int),I (0 : Int),I (0 : Int),I (0 : Int)]),(b2,.cells [.str p0x0.device_,.str p0x0.rule_,I p0x0.state_,I x.1,I x.2.1,I (0 : Int)])]⟩) h ?_ ?_
  · exact ImpX.lq [1,0] J J J
  · intro x z1 σ' J1 hmk h hJ1 hA1
    obtain ⟨n6, n7, n8⟩ := x
    obtain rfl := hmk
    replace h : Q_track_alarm_b1 p0x0 p1x0 n6 n7 n8 = some z1 := h
    unfold Q_track_alarm_b1 at h
    refine tSR<|ARun.qv (q_lss J J) J<|rN<|tS<|ATodo.cond_d J (fun hc=>?_) (fun hc=>?_)
    · refine have h := iteT hc h; tK<|tS<|ATodo.block<|tSR<|bndE h fun v9 e1 h=>ARun.qv (t_index J J J e1 J J) J<|ARun.qv (q_load_rptr_agg J J J) J<|n_alloc J J J J fun b10=>n_store_ptr J J J J .p0 J J<|rN<|tS<|tSR<|rF J J J<|rL J J .p0 J J<|ARun.qv (q_leq J J) J<|rN<|ATodo.cut (fun σ'=>∃ (n11 : Int),Q_track_alarm_j1 n7 n8 v9 n11 = some z1 ∧ σ' = ⟨67,[(0,.rptr [.str p0x0.device_,.str p0x0.rule_,lE2 p0x0.done_,I p0x0.state_,I p0x0.shelved_.From,I p0x0.shelved_.To]),(1,I p1x0),(4,.ptr b1 0),(5,.ptr b2 0),(7,.ptr b10 0),(24,lE2 p0x0.done_),(25,I (p0x0.done_.length : Int)),(26,I n8)],[(b1,.cells [.str [],.str [],I (0 : Int),I (0 : Int),I (0 : Int),I (0 : Int)]),(b2,.cells [.str p0x0.device_,.str p0x0.rule_,I p0x0.state_,I n11,I n7,I (0 : Int)]),(b10,.cells (cE0 v9))]⟩) ?_ ?_
      · refine ATodo.cond_d J (fun hc=>?_) (fun hc=>?_)
        · exact have h := iteT hc h; tR<|rF J J J<|rL J J .p0 J J<|rF J J J<|n_store_ptr J J J J .p2 J J<|rN<|ATodo.stop<|ImpX.lq [1,1,0] ⟨v9.At,h,J⟩ J J
        · exact have h := iteF hc h; tK<|ATodo.stop<|ImpX.lq [1,1,0] ⟨n6,h,J⟩ J J
      · rintro σ' ⟨n11, h, rfl⟩
        unfold Q_track_alarm_j1 at h
        refine tSR<|rF J J J<|rL J J .p2 J J<|ARun.qv (q_eql J J) J<|rN<|ATodo.cut (fun σ'=>∃ (n12 : Int),Q_track_alarm_j2 n8 n11 n12 = some z1 ∧ σ' = ⟨67,[(0,.rptr [.str p0x0.device_,.str p0x0.rule_,lE2 p0x0.done_,I p0x0.state_,I p0x0.shelved_.From,I p0x0.shelved_.To]),(1,I p1x0),(4,.ptr b1 0),(5,.ptr b2 0),(24,lE2 p0x0.done_),(25,I (p0x0.done_.length : Int)),(26,I n8)],[(b1,.cells [.str [],.str [],I (0 : Int),I (0 : Int),I (0 : Int),I (0 : Int)]),(b2,.cells [.str p0x0.device_,.str p0x0.rule_,I p0x0.state_,I n11,I n12,I (0 : Int)])]⟩) ?_ ?_
        · refine ATodo.cond_d J (fun hc=>?_) (fun hc=>?_)
          · exact have h := iteT hc h; tR<|rF J J J<|rL J J .p1 J J<|ARun.qv (q_addw J J) J<|rF J J J<|n_store_ptr J J J J .p1 J J<|rN<|ATodo.stop<|ImpX.lq [0,0] ⟨w64 (n7 + (1 : Int)),h,J⟩ J J
          · exact have h := iteF hc h; tK<|ATodo.stop<|ImpX.lq [0,0] ⟨n7,h,J⟩ J J
        · rintro σ' ⟨n12, h, rfl⟩
          unfold Q_track_alarm_j2 at h
          refine ATodo.blk<|tR<|ARun.qv (q_addw J J) J<|rM J J<|rN<|ATodo.stop<|?_
          obtain rfl := Option.some.inj h
          exact hJ1 _ _ J<|ImpX.lq [0,0] J J J
    · refine have h := iteF hc h; ATodo.exit J<|have h := outL h hA1; tS<|tS<|ATodo.cut (fun σ'=>∃ (c13 : Bool),Q_track_alarm_j3 p0x0 n6 n7 c13 = some r ∧ σ' = ⟨67,[(0,.rptr [.str p0x0.device_,.str p0x0.rule_,lE2 p0x0.done_,I p0x0.state_,I p0x0.shelved_.From,I p0x0.shelved_.To]),(4,.ptr b1 0),(5,.ptr b2 0),(59,.bool c13)],[(b1,.cells [.str [],.str [],I (0 : Int),I (0 : Int),I (0 : Int),I (0 : Int)]),(b2,.cells [.str p0x0.device_,.str p0x0.rule_,I p0x0.state_,I n6,I n7,I (0 : Int)])]⟩) ?_ ?_
      · refine tR<|rM J J<|ARun.qv (q_nilCheck_rptr J) J<|ARun.qv (n_field_rptr J J) J<|ARun.qv (n_field_rptr J J) J<|ARun.qv (q_load_rptr J J J) J<|rM J J<|ARun.qv (q_leq J J) J<|rM J J<|ARun.guard_dt J J J (fun hc=>?_) (fun hc=>?_)
        · rw [andTd hc] at h
          exact rM J J<|rY J J J<|rM J J<|rY J J J<|ARun.qv (q_nilCheck_rptr J) J<|rY J J J<|ARun.qv (n_field_rptr J J) J<|rY J J J<|ARun.qv (n_field_rptr J J) J<|rY J J J<|ARun.qv (q_load_rptr J J J) J<|rY J J J<|ARun.qv (q_lss J J) J<|rT J J J<|rN<|ATodo.stop<|ImpX.lq [0,0] ⟨decide (p1x0 < p0x0.shelved_.To),h,J⟩ J J
        · rw [andFd hc] at h
          exact rG J J J J<|rG J J J J<|rG J J J J<|rG J J J J<|rG J J J J<|rG J J J J<|rE J J J<|rN<|ATodo.stop<|ImpX.lq [0,0] ⟨false,h,J⟩ J J
      · rintro σ' ⟨c13, h, rfl⟩
        unfold Q_track_alarm_j3 at h
        refine ATodo.cut (fun σ'=>∃ (n14 : Int),Q_track_alarm_j4 p0x0 n6 n7 n14 = some r ∧ σ' = ⟨67,[(4,.ptr b1 0),(5,.ptr b2 0)],[(b1,.cells [.str [],.str [],I (0 : Int),I (0 : Int),I (0 : Int),I (0 : Int)]),(b2,.cells [.str p0x0.device_,.str p0x0.rule_,I p0x0.state_,I n6,I n7,I n14])]⟩) ?_ ?_
        · refine ATodo.cond J (fun hc=>?_) (fun hc=>?_)
          · exact have h := iteT hc h; tR<|rM J J<|ARun.qv (q_nilCheck_rptr J) J<|ARun.qv (n_field_rptr J J) J<|ARun.qv (n_field_rptr J J) J<|ARun.qv (q_load_rptr J J J) J<|rF J J J<|n_store_ptr J J J J .p1 J J<|rN<|ATodo.stop<|ImpX.lq [0,0] ⟨p0x0.shelved_.To,h,J⟩ J J
          · exact have h := iteFb hc h; tK<|ATodo.stop<|ImpX.lq [0,0] ⟨(0 : Int),h,J⟩ J J
        · rintro σ' ⟨n14, h, rfl⟩
          unfold Q_track_alarm_j4 at h
          refine tSR<|ARun.qv (q_load_ptr_all J J .p1 J) J<|n_store_ptr J J J J .p0 J J<|rN<|ATodo.ret<|?_
          obtain rfl := Option.some.inj h
          exact ImpX.here ⟨_,.cons (.all _ _ _ _ _ _ J .p0 TUnder.h TInfo.h J J) .nil,J⟩

theorem Q_AlarmAt_c [GI : GTab] {p0x0 : List Signal} {p1x0 : Str} {p2x0 : Str} {p3x0 : Int} {r : Alarm} (h : Q_AlarmAt p0x0 p1x0 p2x0 p3x0 = some r) : Pu Tryz.prog 33 [lE2 p0x0,.str p1x0,.str p2x0,I p3x0] (Alarm.av r) := by
  unfold Q_AlarmAt at h
  refine ACall.bodyN Tryz.func33 J Tryz.ntmps33 Tryz.results33 J J ?_
  refine tSR<|n_alloc J J J J fun b1=>rN<|tSR<|rM J J<|rM J J<|bndE h fun v2 e1 h=>t_call1 J (Q_tracksAt_c e1) (CoL.refl _) .nil (fun _=>J) J fun b3=>rM J J<|rX J J J<|rX J J J<|rA J J<|rA J J<|rN<|tS<|tSR<|rM J J<|ARun.qv (t_len J) J<|rM J J<|rN<|ATodo.block<|ATodo.loopI (fun x : Int=>Q_AlarmAt_b1 p1x0 p2x0 p3x0 v2 x) (fun x σ'=>σ' = ⟨46,[(1,.str p1x0),(2,.str p2x0),(3,I p3x0),(8,.ptr b1 0),(19,lE4 v2.1),(20,I (v2.1.length : Int)),(21,I x)],[(b1,.cells [.str [],.str [],I (0 : Int),I (0 : Int),I (0 : Int),I (0 : Int)])]⟩) h ?_ ?_
  · exact ImpX.lq [1] J J J
  · intro n5 z1 σ' J1 hmk h hJ1 hA1
    obtain rfl := hmk
    replace h : Q_AlarmAt_b1 p1x0 p2x0 p3x0 v2 n5 = some z1 := h
    unfold Q_AlarmAt_b1 at h
    refine tSR<|ARun.qv (q_lss J J) J<|rN<|tS<|ATodo.cond_d J (fun hc=>?_) (fun hc=>?_)
    · refine have h := iteT hc h; tK<|tS<|ATodo.block<|tSR<|bndE h fun v6 e2 h=>ARun.qv (t_index J J J e2 J J) J<|ARun.qv (q_load_rptr J J J) J<|rA J J<|rN<|tS<|ATodo.cut (fun σ'=>∃ (c7 : Bool),Q_AlarmAt_j1 p3x0 n5 v6 c7 = some z1 ∧ σ' = ⟨46,[(1,.str p1x0),(2,.str p2x0),(3,I p3x0),(8,.ptr b1 0),(12,.rptr [.str v6.device_,.str v6.rule_,lE2 v6.done_,I v6.state_,I v6.shelved_.From,I v6.shelved_.To]),(19,lE4 v2.1),(20,I (v2.1.length : Int)),(21,I n5),(38,.bool c7)],[(b1,.cells [.str [],.str [],I (0 : Int),I (0 : Int),I (0 : Int),I (0 : Int)])]⟩) ?_ ?_
      · refine tR<|rM J J<|ARun.qv (q_nilCheck_rptr J) J<|ARun.qv (n_field_rptr J J) J<|ARun.qv (q_load_rptr J J J) J<|rM J J<|ARun.qv (q_seq J J) J<|rM J J<|ARun.guard_dt J J J (fun hc=>?_) (fun hc=>?_)
        · rw [andTd hc] at h
          exact rM J J<|rY J J J<|ARun.qv (q_nilCheck_rptr J) J<|rY J J J<|ARun.qv (n_field_rptr J J) J<|rY J J J<|ARun.qv (q_load_rptr J J J) J<|rY J J J<|rM J J<|rY J J J<|ARun.qv (q_seq J J) J<|rT J J J<|rN<|ATodo.stop<|ImpX.lq [0] ⟨decide (v6.rule_ = p2x0),h,J⟩ J J
        · rw [andFd hc] at h
          exact rG J J J J<|rG J J J J<|rG J J J J<|rG J J J J<|rG J J J J<|rE J J J<|rN<|ATodo.stop<|ImpX.lq [0] ⟨false,h,J⟩ J J
      · rintro σ' ⟨c7, h, rfl⟩
        unfold Q_AlarmAt_j1 at h
        refine ATodo.cond J (fun hc=>?_) (fun hc=>?_)
        · refine have h := iteT hc h; tSR<|rM J J<|rM J J<|bndE h fun v8 e3 h=>r_callp J (Q_track_alarm_c e3) (CoL.refl _) J<|n_store_ptr J J J J .p0 J J<|rN<|ATodo.ret<|have h := outL h hA1; ?_
          obtain rfl := Option.some.inj h
          exact ImpX.here ⟨_,.cons (.all _ _ _ _ _ _ J .p0 TUnder.h TInfo.h J J) .nil,J⟩
        · refine have h := iteFb hc h; tK<|ATodo.blk<|tR<|ARun.qv (q_addw J J) J<|rM J J<|rN<|ATodo.stop<|?_
          obtain rfl := Option.some.inj h
          exact hJ1 _ _ J<|ImpX.lq [0] J J J
    · refine have h := iteF hc h; ATodo.exit J<|have h := outL h hA1; tSR<|rM J J<|rM J J<|ARun.qv (n_build J J J J J) J<|n_store_ptr J J J J .p0 J J<|rN<|ATodo.ret<|?_
      obtain rfl := Option.some.inj h
      exact ImpX.here ⟨_,.cons (.all _ _ _ _ _ _ J .p0 TUnder.h TInfo.h J J) .nil,J⟩

theorem Q_timesOf_c [GI : GTab] {p0x0 : List Signal} {p1x0 : Str} {p2x0 : Str} {fnd : Alarm → Option Bool} {fnd_F : FuncId} [IsFn Tryz.prog fnd_F] {fnd_C : List AV} (fnd_h : ∀ {y0 : _} {u : Bool},fnd y0 = some u → Pu Tryz.prog fnd_F (Alarm.av y0 ::  fnd_C) (.bool u)) {r : (List Window)} (h : Q_timesOf p0x0 p1x0 p2x0 fnd = some r) : ACall Tryz.prog 134 [lE2 p0x0,.str p1x0,.str p2x0,.func (.func fnd_F) fnd_C] [] (T1 (fun d_0=>[(d_0,aE3 r)]) (fun d_0=>.sl 2 d_0 0 r.length)) := by
  unfold Q_timesOf at h
  refine ACall.lessH ?_
  refine ACall.bodyN Tryz.func134 J Tryz.ntmps134 Tryz.results134 J J ?_
  refine tSR<|rA J J<|rN<|tSR<|rA J J<|rN<|tSR<|rM J J<|bndE h fun v1 e1 h=>t_call1 J (Q_signalMoments_c e1) (CoL.refl _) .nil (fun _=>J) J fun b2=>rA J J<|rN<|tS<|tSR<|rM J J<|ARun.qv (t_len_sl J) J<|ARun.qv (q_subw J J) J<|rM J J<|rN<|ATodo.block<|ATodo.loopI (fun x : (List Window) × Int=>Q_timesOf_b1 p0x0 p1x0 p2x0 fnd v1 x.1 x.2) (fun x σ'=>∃ (b6 : Bk),σ' = ⟨74,[(0,lE2 p0x0),(1,.str p1x0),(2,.str p2x0),(3,.func (.func fnd_F) fnd_C),(9,.sl 2 b6 0 x.1.length),(10,.sl 1 b2 0 v1.length),(17,I (w64 ((v1.length : Int) - (1 : Int)))),(18,I x.2)],[(b6,aE3 x.1),(b2,aE0 v1)]⟩) h ?_ ?_
  · exact ImpX.arr (s := 9) 2 J fun b9=>ImpX.lq [0,0] ⟨b9,J⟩ J J
  · intro x z1 σ' J1 hmk h hJ1 hA1
    obtain ⟨l7, n8⟩ := x
    obtain ⟨b6, rfl⟩ := hmk
    replace h : Q_timesOf_b1 p0x0 p1x0 p2x0 fnd v1 l7 n8 = some z1 := h
    unfold Q_timesOf_b1 at h
    refine tSR<|ARun.qv (q_lss J J) J<|rN<|tS<|ATodo.cond_d J (fun hc=>?_) (fun hc=>?_)
    · refine have h := iteT hc h; tK<|tS<|ATodo.cut (fun σ'=>∃ (b10 : Bk) (l11 : List Window),Q_timesOf_j1 n8 l11 = some z1 ∧ σ' = ⟨74,[(0,lE2 p0x0),(1,.str p1x0),(2,.str p2x0),(3,.func (.func fnd_F) fnd_C),(9,.sl 2 b10 0 l11.length),(10,.sl 1 b2 0 v1.length),(17,I (w64 ((v1.length : Int) - (1 : Int)))),(18,I n8)],[(b10,aE3 l11),(b2,aE0 v1)]⟩) ?_ ?_
      · refine ATodo.block<|tSR<|rM J J<|rA J J<|rN<|tS<|tSR<|rM J J<|rM J J<|rM J J<|rM J J<|rM J J<|rM J J<|bndE h fun v12 e2 h=>ARun.qv (t_index_sl J J J e2) J<|ARun.qv (t_load_aptr (g := I) J J (.inl .p1) e2 J) J<|bndE h fun v13 e3 h=>r_callp J (Q_AlarmAt_c e3) (CoL.refl _) J<|bndE h fun v14 e4 h=>r_callvp J J (fnd_h e4) (CoL.refl _) J<|ARun.qv (q_not J) J<|rN<|ATodo.cond J (fun hc=>?_) (fun hc=>?_)
        · exact have h := iteT hc h; ATodo.exit J<|ATodo.stop<|ImpX.lq [0,0] ⟨b6,l7,h,J⟩ J J
        · refine have h := iteFb hc h; tK<|tSR<|rM J J<|ARun.qv (t_len_sl J) J<|rA J J<|rN<|tS<|ATodo.cut (fun σ'=>∃ (c15 : Bool),Q_timesOf_j2 v1 l7 n8 c15 = some z1 ∧ σ' = ⟨74,[(0,lE2 p0x0),(1,.str p1x0),(2,.str p2x0),(3,.func (.func fnd_F) fnd_C),(9,.sl 2 b6 0 l7.length),(10,.sl 1 b2 0 v1.length),(11,I n8),(12,I (l7.length : Int)),(17,I (w64 ((v1.length : Int) - (1 : Int)))),(18,I n8),(48,.bool c15)],[(b6,aE3 l7),(b2,aE0 v1)]⟩) ?_ ?_
          · refine ATodo.regionM (id := 8) (A := [0,1,3,7,7,23,63,127,255,7,7,1543,3591,8191,16383]) 15 mixed J (by kernel_rfl) (by kernel_rfl)<|AM.qv (q_move J) J<|AM.qv (q_gtr J J) J<|AM.qv (q_move J) J<|AM.guard_dt J J J (fun hc=>?_) (fun hc=>?_)
            · exact have h := iteT hc h; AM.qv (q_move J) J<|AM.guard_yes J J J<|AM.qv (q_move J) J<|AM.guard_yes J J J<|AM.qv (q_subw J J) J<|AM.guard_yes J J J<|bndE h fun v16 e5 h=>AM.qv (t_index_sl J J J e5) J<|AM.guard_yes J J J<|AM.qv (t_field_aptr J J) J<|AM.guard_yes J J J<|AM.qv (t_load_aptr (g := Window.av) J J (.inl .p0) e5 J) J<|AM.guard_yes J J J<|AM.qv (q_move J) J<|AM.guard_yes J J J<|AM.qv (q_move J) J<|AM.guard_yes J J J<|bndE h fun v17 e6 h=>AM.qv (t_index_sl J J J e6) J<|AM.guard_yes J J J<|AM.qv (t_load_aptr (g := I) J J (.inl .p1) e6 J) J<|AM.guard_yes J J J<|AM.qv (q_eql J J) J<|AM.qv (q_pick_t J J) J<|AM.nil<|rN<|ATodo.stop<|ImpX.lq [0,0] ⟨decide (v16.To = v17),h,J⟩ J J
            · exact have h := iteF hc h; AM.guard_no J J J J<|AM.guard_no J J J J<|AM.guard_no J J J J<|AM.guard_no J J J J<|AM.guard_no J J J J<|AM.guard_no J J J J<|AM.guard_no J J J J<|AM.guard_no J J J J<|AM.guard_no J J J J<|AM.guard_no J J J J<|AM.qv (q_pick_f J J) J<|AM.nil<|rN<|ATodo.stop<|ImpX.lq [0,0] ⟨false,h,J⟩ J J
          · rintro σ' ⟨c15, h, rfl⟩
            unfold Q_timesOf_j2 at h
            refine ATodo.cut (fun σ'=>∃ (b18 : Bk) (l19 : List Window),Q_timesOf_j3 n8 l19 = some z1 ∧ σ' = ⟨74,[(0,lE2 p0x0),(1,.str p1x0),(2,.str p2x0),(3,.func (.func fnd_F) fnd_C),(9,.sl 2 b18 0 l19.length),(10,.sl 1 b2 0 v1.length),(17,I (w64 ((v1.length : Int) - (1 : Int)))),(18,I n8)],[(b18,aE3 l19),(b2,aE0 v1)]⟩) ?_ ?_
            · refine ATodo.cond J (fun hc=>?_) (fun hc=>?_)
              · exact have h := iteT hc h; tR<|rM J J<|rM J J<|ARun.qv (q_subw J J) J<|rM J J<|rM J J<|ARun.qv (q_addw J J) J<|bndE h fun v20 e7 h=>ARun.qv (t_index_sl J J J e7) J<|ARun.qv (t_load_aptr (g := I) J J (.inl .p1) e7 J) J<|bndE h fun v21 e8 h=>ARun.qv (t_index_sl J J J e8) J<|ARun.qv (t_field_aptr J J) J<|t_store_aptr1 (g := Window.av) (el' := (⟨v21.From,v20⟩ : Window)) J J J J e8 J .p0 J<|ARun.ghost<|ImpX.eqs (s := 9) (av' := .sl 2 b6 0 (l7.set (w64 ((l7.length : Int) - (1 : Int))).toNat (⟨v21.From,v20⟩ : Window)).length) J (by rw [List.length_set])<|ImpX.here<|ARun.ghost<|ImpX.eqs (s := 49) (av' := .sl 2 b6 0 (l7.set (w64 ((l7.length : Int) - (1 : Int))).toNat (⟨v21.From,v20⟩ : Window)).length) J (by rw [List.length_set])<|ImpX.here<|rN<|ATodo.stop<|ImpX.lq [0,0] ⟨b6,l7.set (w64 ((l7.length : Int) - (1 : Int))).toNat (⟨v21.From,v20⟩ : Window),h,J⟩ J J
              · exact have h := iteFb hc h; ATodo.regionM (id := 10) (A := [0,0,0,6,14,0,0,64,224,480,1022,2046,4095,8191]) 12 mixed J (by kernel_rfl) (by kernel_rfl)<|AM.qv (q_move J) J<|AM.qv (q_move J) J<|AM.qv (q_move J) J<|bndE h fun v22 e9 h=>AM.qv (t_index_sl J J J e9) J<|AM.qv (t_load_aptr (g := I) J J (.inl .p1) e9 J) J<|AM.qv (q_move J) J<|AM.qv (q_move J) J<|AM.qv (q_addw J J) J<|bndE h fun v23 e10 h=>AM.qv (t_index_sl J J J e10) J<|AM.qv (t_load_aptr (g := I) J J (.inl .p1) e10 J) J<|AM.qv (n_build J J J J J) J<|AM.buildSliceL (xs := ([(⟨v22,v23⟩ : Window)]).map Window.av) J J J J J J<|AM.nil<|bndE h fun l24 e11 h=>t_append (g := Window.av) J J J J J J J J (.list _) e11 (fun _=>.p0) J fun b25=>rA J J<|rN<|ATodo.stop<|ImpX.lq [0,0] ⟨b25,l24,h,J⟩ J J
            · rintro σ' ⟨b18, l19, h, rfl⟩
              unfold Q_timesOf_j3 at h
              exact ATodo.blk<|ATodo.stop<|ImpX.lq [0,0] ⟨b18,l19,h,J⟩ J J
      · rintro σ' ⟨b10, l11, h, rfl⟩
        unfold Q_timesOf_j1 at h
        refine tR<|ARun.qv (q_addw J J) J<|rM J J<|rN<|ATodo.stop<|?_
        obtain rfl := Option.some.inj h
        exact hJ1 _ _ J<|ImpX.lq [0,0] ⟨b10,J⟩ J J
    · refine have h := iteF hc h; ATodo.exit J<|have h := outL h hA1; tSR<|rM J J<|rA J J<|rN<|ATodo.ret<|?_
      obtain rfl := Option.some.inj h
      exact ImpX.here ⟨_,.cons (.tmp _ _ J) .nil,_,.cons .p0 .nil,⟨b6,J,J⟩⟩

theorem Q_ActiveTimes_c [GI : GTab] {p0x0 : List Signal} {p1x0 : Str} {p2x0 : Str} {r : (List Window)} (h : Q_ActiveTimes p0x0 p1x0 p2x0 = some r) : ACall Tryz.prog 63 [lE2 p0x0,.str p1x0,.str p2x0] [] (T1 (fun d_0=>[(d_0,aE3 r)]) (fun d_0=>.sl 2 d_0 0 r.length)) := by
  unfold Q_ActiveTimes at h
  refine ACall.lessH ?_
  refine ACall.bodyN Tryz.func63 J Tryz.ntmps63 Tryz.results63 J J ?_
  refine tSR<|rA J J<|rN<|tSR<|rM J J<|rM J J<|rM J J<|bndE h fun v1 e1 h=>t_call1 J (Q_timesOf_c (fun e=>Q_isUp_c (Option.some.inj e)) e1) (CoL.refl _) .nil (fun _=>J) J fun b2=>rA J J<|rN<|ATodo.ret<|?_
  obtain rfl := Option.some.inj h
  exact ImpX.here ⟨_,.cons (.tmp _ _ J) .nil,_,.cons .p0 .nil,⟨b2,J,J⟩⟩

theorem slices_Equal_Window_Window_c [GI : GTab] {p0x0 : List Window} {p1x0 : List Window} {r : Bool} (h : slices_Equal_Window_Window p0x0 p1x0 = some r) : Pu Tryz.prog 45 [lE3 p0x0,lE3 p1x0] (.bool r) := by
  unfold slices_Equal_Window_Window at h
  refine ACall.bodyN Tryz.func45 J Tryz.ntmps45 Tryz.results45 J J ?_
  refine tSR<|rA J J<|rN<|tS<|tSR<|rM J J<|ARun.qv (t_len J) J<|rM J J<|ARun.qv (t_len J) J<|ARun.qv (q_neq J J) J<|rN<|ATodo.cond_d J (fun hc=>?_) (fun hc=>?_)
  · refine have h := iteT hc h; tSR<|rA J J<|rN<|ATodo.ret<|?_
    obtain rfl := Option.some.inj h
    exact ImpX.here ⟨_,.cons (.tmp _ _ J) .nil,J⟩
  · refine have h := iteF hc h; tK<|tS<|tSR<|rM J J<|ARun.qv (t_len J) J<|rM J J<|rN<|ATodo.block<|ATodo.loopI (fun x : Int=>slices_Equal_Window_Window_b1 p0x0 p1x0 x) (fun x σ'=>σ' = ⟨26,[(0,lE3 p0x0),(1,lE3 p1x0),(12,I (p0x0.length : Int)),(13,I x)],[]⟩) h ?_ ?_
    · exact ImpX.lq [] J J J
    · intro n2 z1 σ' J1 hmk h hJ1 hA1
      obtain rfl := hmk
      replace h : slices_Equal_Window_Window_b1 p0x0 p1x0 n2 = some z1 := h
      unfold slices_Equal_Window_Window_b1 at h
      refine tSR<|ARun.qv (q_lss J J) J<|rN<|tS<|ATodo.cond_d J (fun hc=>?_) (fun hc=>?_)
      · refine have h := iteT hc h; tK<|tS<|ATodo.block<|tSR<|rM J J<|rA J J<|rN<|tS<|ATodo.regionM (id := 6) (A := [0,0,3,7,0,0,48,112,255]) 9 mixed J (by kernel_rfl) (by kernel_rfl)<|AM.qv (q_move J) J<|AM.qv (q_move J) J<|bndE h fun v3 e1 h=>AM.qv (t_index J J J e1 J J) J<|AM.qv (q_load_rptr_agg J J J) J<|AM.qv (q_move J) J<|AM.qv (q_move J) J<|bndE h fun v4 e2 h=>AM.qv (t_index J J J e2 J J) J<|AM.qv (q_load_rptr_agg J J J) J<|AM.qv (t_tne (g := Window.av) (X := v3) (Y := v4) J J J J J) J<|AM.nil<|rN<|ATodo.cond_d J (fun hc=>?_) (fun hc=>?_)
        · refine have h := iteT hc h; tSR<|rA J J<|rN<|ATodo.ret<|have h := outL h hA1; ?_
          obtain rfl := Option.some.inj h
          exact ImpX.here ⟨_,.cons (.tmp _ _ J) .nil,J⟩
        · refine have h := iteF hc h; tK<|ATodo.blk<|tR<|ARun.qv (q_addw J J) J<|rM J J<|rN<|ATodo.stop<|?_
          obtain rfl := Option.some.inj h
          exact hJ1 _ _ J<|ImpX.lq [] J J J
      · refine have h := iteF hc h; ATodo.exit J<|have h := outL h hA1; tSR<|rA J J<|rN<|ATodo.ret<|?_
        obtain rfl := Option.some.inj h
        exact ImpX.here ⟨_,.cons (.tmp _ _ J) .nil,J⟩

theorem alarm_NextChange_1x_c [GI : GTab] {p0x0 : Signal} {p1x0 : Int} {r : Bool} (h : alarm_NextChange_1x p0x0 p1x0 = r) : Pu Tryz.prog 136 [Signal.av p0x0,.rptr [I p1x0]] (.bool r) := by
  unfold alarm_NextChange_1x at h
  refine ACall.bodyN Tryz.func136 J Tryz.ntmps136 Tryz.results136 J J ?_
  refine tSR<|n_box J J J J fun b1=>rA J J<|rN<|tSR<|rF J J J<|rL J J .p0 J J<|ARun.qv (q_load_rptr J J J) J<|ARun.qv (q_gtr J J) J<|rA J J<|rN<|ATodo.ret<|?_
  obtain rfl := h
  exact ImpX.here ⟨_,.cons (.tmp _ _ J) .nil,J⟩

theorem slices_IndexFunc_Signal_Signal_c [GI : GTab] {p0x0 : List Signal} {fnb : Signal → Option Bool} {fnb_F : FuncId} [IsFn Tryz.prog fnb_F] {fnb_C : List AV} (fnb_h : ∀ {y0 : _} {u : Bool},fnb y0 = some u → Pu Tryz.prog fnb_F (Signal.av y0 ::  fnb_C) (.bool u)) {r : Int} (h : slices_IndexFunc_Signal_Signal p0x0 fnb = some r) : Pu Tryz.prog 135 [lE2 p0x0,.func (.func fnb_F) fnb_C] (I r) := by
  unfold slices_IndexFunc_Signal_Signal at h
  refine ACall.bodyN Tryz.func135 J Tryz.ntmps135 Tryz.results135 J J ?_
  refine tSR<|rA J J<|rN<|tS<|tSR<|rM J J<|ARun.qv (t_len J) J<|rM J J<|rN<|ATodo.block<|ATodo.loopI (fun x : Int=>slices_IndexFunc_Signal_Signal_b1 p0x0 fnb x) (fun x σ'=>σ' = ⟨19,[(0,lE2 p0x0),(1,.func (.func fnb_F) fnb_C),(7,I (p0x0.length : Int)),(8,I x)],[]⟩) h ?_ ?_
  · exact ImpX.lq [] J J J
  · intro n2 z1 σ' J1 hmk h hJ1 hA1
    obtain rfl := hmk
    replace h : slices_IndexFunc_Signal_Signal_b1 p0x0 fnb n2 = some z1 := h
    unfold slices_IndexFunc_Signal_Signal_b1 at h
    refine tSR<|ARun.qv (q_lss J J) J<|rN<|tS<|ATodo.cond_d J (fun hc=>?_) (fun hc=>?_)
    · refine have h := iteT hc h; tK<|tS<|ATodo.block<|tSR<|rM J J<|rA J J<|rN<|tSR<|rM J J<|rM J J<|rM J J<|bndE h fun v3 e1 h=>ARun.qv (t_index J J J e1 J J) J<|ARun.qv (q_load_rptr_agg J J J) J<|bndE h fun v4 e2 h=>r_callvp J J (fnb_h e2) (CoL.refl _) J<|rN<|ATodo.cond J (fun hc=>?_) (fun hc=>?_)
      · refine have h := iteT hc h; tSR<|rM J J<|rA J J<|rN<|ATodo.ret<|have h := outL h hA1; ?_
        obtain rfl := Option.some.inj h
        exact ImpX.here ⟨_,.cons (.tmp _ _ J) .nil,J⟩
      · refine have h := iteFb hc h; tK<|ATodo.blk<|tR<|ARun.qv (q_addw J J) J<|rM J J<|rN<|ATodo.stop<|?_
        obtain rfl := Option.some.inj h
        exact hJ1 _ _ J<|ImpX.lq [] J J J
    · refine have h := iteF hc h; ATodo.exit J<|have h := outL h hA1; tSR<|rA J J<|rN<|ATodo.ret<|?_
      obtain rfl := Option.some.inj h
      exact ImpX.here ⟨_,.cons (.tmp _ _ J) .nil,J⟩

theorem alarm_life_view_c [GI : GTab] {p0x0 : Alarm_life} {p1x0 : Int} {r : Alarm × Bool} (h : alarm_life_view p0x0 p1x0 = r) : Pu Tryz.prog 95 [.rptr [.str p0x0.name_.device_,.str p0x0.name_.rule_,I p0x0.state_,I p0x0.since_,lE0 p0x0.raises_,I p0x0.shelved_,lE3 p0x0.up_,lE3 p0x0.fresh_,lE3 p0x0.aside_,lE0 p0x0.acks_,lE0 p0x0.waits_],I p1x0] (.tup [Alarm.av r.1,.bool r.2]) := by
  unfold alarm_life_view at h
  refine ACall.bodyN Tryz.func95 J Tryz.ntmps95 Tryz.results95 J J ?_
  refine tSR<|n_alloc J J J J fun b1=>rA J J<|rN<|tS<|ATodo.regionT (id := 1) (A := [0,1,3,7,15,0,32,96,224,480,0,1024,3072,7168,0,16384,49152,114688,0,262144,786432,1835008,3932160,8388607,0,33554431]) (H0 := []) (HH := fun β=>[((β 24),.cells [.str [],.str [],I (0 : Int),I (0 : Int),I (0 : Int),I (0 : Int)]),(b1,.cells [.str [],.str [],I (0 : Int),I (0 : Int),I (0 : Int),I (0 : Int)])]) 25 mixed J (by kernel_rfl) (by kernel_rfl) [⟨some 24,none,[],fun b=>(b,.cells [.str [],.str [],I (0 : Int),I (0 : Int),I (0 : Int),I (0 : Int)]),none,[]⟩] [24] J (by kernel_rfl) J .nil (fun _=>J)<|AT.am 24 J J<|AM.qv (q_move J) J<|AM.qv (q_nilCheck_rptr J) J<|AM.qv (n_field_rptr J J) J<|AM.qv (n_field_rptr J J) J<|AM.qv (q_load_rptr J J J) J<|AM.qv (q_move J) J<|AM.qv (q_nilCheck_rptr J) J<|AM.qv (n_field_rptr J J) J<|AM.qv (n_field_rptr J J) J<|AM.qv (q_load_rptr J J J) J<|AM.qv (q_move J) J<|AM.qv (q_nilCheck_rptr J) J<|AM.qv (n_field_rptr J J) J<|AM.qv (q_load_rptr J J J) J<|AM.qv (q_move J) J<|AM.qv (q_nilCheck_rptr J) J<|AM.qv (n_field_rptr J J) J<|AM.qv (q_load_rptr J J J) J<|AM.qv (q_move J) J<|AM.qv (q_nilCheck_rptr J) J<|AM.qv (n_field_rptr J J) J<|AM.qv (q_load_rptr J J J) J<|AM.qv (t_len J) J<|AM.qv (n_build J J J J J) J<|AM.nil<|AT.runD (V := fun b=>.ptr b 0) (Ti := []) (Pi := fun b=>[(b,.cells [.str [],.str [],I (0 : Int),I (0 : Int),I (0 : Int),I (0 : Int)])]) (fun _=>J) (fun _=>J) (fun _ _=>J) J (fun _=>J) J J J ?_ ?_
  · exact n_alloc J J J J fun b2=>ARun.nil ⟨b2,_,J,J⟩
  refine AT.nilN (fun _=>J) fun β=>?_
  generalize β 24 = b2
  clear β
  refine n_store_ptr J J J J .p0 J J<|rN<|tS<|tSR<|rM J J<|ARun.qv (q_nilCheck_rptr J) J<|ARun.qv (n_field_rptr J J) J<|ARun.qv (q_load_rptr J J J) J<|rM J J<|ARun.qv (q_gtr J J) J<|rN<|ATodo.cut (fun σ'=>∃ (n3 : Int),alarm_life_view_j1 p0x0 n3 = r ∧ σ' = ⟨51,[(4,.ptr b1 0),(6,.ptr b2 0)],[(b1,.cells [.str [],.str [],I (0 : Int),I (0 : Int),I (0 : Int),I (0 : Int)]),(b2,.cells [.str p0x0.name_.device_,.str p0x0.name_.rule_,I p0x0.state_,I p0x0.since_,I (p0x0.raises_.length : Int),I n3])]⟩) ?_ ?_
  · refine ATodo.cond_d J (fun hc=>?_) (fun hc=>?_)
    · exact have h := iteT hc h; tR<|rM J J<|ARun.qv (q_nilCheck_rptr J) J<|ARun.qv (n_field_rptr J J) J<|ARun.qv (q_load_rptr J J J) J<|rF J J J<|n_store_ptr J J J J .p0 J J<|rN<|ATodo.stop<|ImpX.lq [1,0] ⟨p0x0.shelved_,h,J⟩ J J
    · exact have h := iteF hc h; tK<|ATodo.stop<|ImpX.lq [1,0] ⟨(0 : Int),h,J⟩ J J
  · rintro σ' ⟨n3, h, rfl⟩
    unfold alarm_life_view_j1 at h
    refine tS<|ATodo.cut (fun σ'=>∃ (c4 : Bool),alarm_life_view_j2 p0x0 n3 c4 = r ∧ σ' = ⟨51,[(4,.ptr b1 0),(5,.bool c4)],[(b1,.cells [.str p0x0.name_.device_,.str p0x0.name_.rule_,I p0x0.state_,I p0x0.since_,I (p0x0.raises_.length : Int),I n3])]⟩) ?_ ?_
    · refine Classical.byCases (p := p0x0.state_ ≠ (0 : Int)) (fun hqe1=>?_) (fun hqe1=>?_)
      · replace h := iteT hqe1 h
        refine ATodo.regionT (id := 4) (A := [0,0,2,6,14,30,62,126,254,31,1023]) (H0 := [(b1,.cells [.str [],.str [],I (0 : Int),I (0 : Int),I (0 : Int),I (0 : Int)])]) (HH := fun β=>[(b1,.cells [.str p0x0.name_.device_,.str p0x0.name_.rule_,I p0x0.state_,I p0x0.since_,I (p0x0.raises_.length : Int),I n3]),(b2,.cells [.str p0x0.name_.device_,.str p0x0.name_.rule_,I p0x0.state_,I p0x0.since_,I (p0x0.raises_.length : Int),I n3])]) 10 mixed J (by kernel_rfl) (by kernel_rfl) [⟨none,some 9,[],fun _=>(b1,.cells [.str [],.str [],I (0 : Int),I (0 : Int),I (0 : Int),I (0 : Int)]),none,[]⟩,⟨some 9,none,[],fun _=>(b1,.cells [.str p0x0.name_.device_,.str p0x0.name_.rule_,I p0x0.state_,I p0x0.since_,I (p0x0.raises_.length : Int),I n3]),none,[]⟩] [] J (by kernel_rfl) J (.cons .p0 .nil) (fun _=>J)<|AT.am 9 J J<|AM.qv (q_load_ptr_all J J .p0 J) J<|AM.qv (n_field_ptr J J) J<|AM.qv (q_load_ptr J J .p0 J) J<|AM.qv (q_neq J J) J<|AM.qv (QV.dT hqe1 (q_move J)) J<|AM.guard_no J J J J<|AM.guard_no J J J J<|AM.guard_no J J J J<|AM.qv (q_pick_t J J) J<|AM.nil<|AT.run0 (Ti := [(b1,.cells [.str [],.str [],I (0 : Int),I (0 : Int),I (0 : Int),I (0 : Int)])]) (Pi := [(b1,.cells [.str p0x0.name_.device_,.str p0x0.name_.rule_,I p0x0.state_,I p0x0.since_,I (p0x0.raises_.length : Int),I n3])]) (fun _=>J) (fun _=>J) (fun _=>J) J J ?_ ?_
        · exact n_store_ptr J J J J .p0 J J<|ARun.nil ⟨_,J⟩
        exact AT.nilN (fun _=>J) fun β=>rA J J<|rN<|ATodo.stop<|ImpX.lq [0] ⟨true,h,J⟩ J J
      · replace h := iteF hqe1 h
        refine ATodo.regionT (id := 4) (A := [0,0,2,6,14,30,62,126,254,31,1023]) (H0 := [(b1,.cells [.str [],.str [],I (0 : Int),I (0 : Int),I (0 : Int),I (0 : Int)])]) (HH := fun β=>[(b1,.cells [.str p0x0.name_.device_,.str p0x0.name_.rule_,I p0x0.state_,I p0x0.since_,I (p0x0.raises_.length : Int),I n3]),(b2,.cells [.str p0x0.name_.device_,.str p0x0.name_.rule_,I p0x0.state_,I p0x0.since_,I (p0x0.raises_.length : Int),I n3])]) 10 mixed J (by kernel_rfl) (by kernel_rfl) [⟨none,some 9,[],fun _=>(b1,.cells [.str [],.str [],I (0 : Int),I (0 : Int),I (0 : Int),I (0 : Int)]),none,[]⟩,⟨some 9,none,[],fun _=>(b1,.cells [.str p0x0.name_.device_,.str p0x0.name_.rule_,I p0x0.state_,I p0x0.since_,I (p0x0.raises_.length : Int),I n3]),none,[]⟩] [] J (by kernel_rfl) J (.cons .p0 .nil) (fun _=>J)<|AT.am 9 J J<|AM.qv (q_load_ptr_all J J .p0 J) J<|AM.qv (n_field_ptr J J) J<|AM.qv (q_load_ptr J J .p0 J) J<|AM.qv (q_neq J J) J<|AM.qv (QV.dF hqe1 (q_move J)) J<|AM.guard_yes J J J<|AM.qv (n_field_ptr J J) J<|AM.guard_yes J J J<|AM.qv (q_load_ptr J J .p0 J) J<|AM.guard_yes J J J<|AM.qv (q_gtr J J) J<|AM.qv (q_pick_f J J) J<|AM.nil<|AT.run0 (Ti := [(b1,.cells [.str [],.str [],I (0 : Int),I (0 : Int),I (0 : Int),I (0 : Int)])]) (Pi := [(b1,.cells [.str p0x0.name_.device_,.str p0x0.name_.rule_,I p0x0.state_,I p0x0.since_,I (p0x0.raises_.length : Int),I n3])]) (fun _=>J) (fun _=>J) (fun _=>J) J J ?_ ?_
        · exact n_store_ptr J J J J .p0 J J<|ARun.nil ⟨_,J⟩
        exact AT.nilN (fun _=>J) fun β=>rA J J<|rN<|ATodo.stop<|ImpX.lq [0] ⟨decide ((0 : Int) < n3),h,J⟩ J J
    · rintro σ' ⟨c4, h, rfl⟩
      unfold alarm_life_view_j2 at h
      refine ATodo.ret<|?_
      obtain rfl := h
      exact ImpX.here ⟨_,.cons (.all _ _ _ _ _ _ J .p0 TUnder.h TInfo.h J J) (.cons (.tmp _ _ J) .nil),J⟩

theorem alarm_house_changes_1x_c [GI : GTab] {p0x0 : Alarm_life} {p1x0 : Int} {r : Alarm_seen} (h : alarm_house_changes_1x p0x0 p1x0 = r) : Pu Tryz.prog 181 [.rptr [.str p0x0.name_.device_,.str p0x0.name_.rule_,I p0x0.state_,I p0x0.since_,lE0 p0x0.raises_,I p0x0.shelved_,lE3 p0x0.up_,lE3 p0x0.fresh_,lE3 p0x0.aside_,lE0 p0x0.acks_,lE0 p0x0.waits_],I p1x0] (Alarm_seen.av r) := by
  unfold alarm_house_changes_1x at h
  refine ACall.bodyN Tryz.func181 J Tryz.ntmps181 Tryz.results181 J J ?_
  refine tSR<|n_alloc J J J J fun b1=>rN<|tSR<|rM J J<|rM J J<|r_callp J (alarm_life_view_c J) (CoL.refl _) J<|rM J J<|rX J J J<|rX J J J<|n_alloc J J J J fun b2=>n_store_ptr J J J J .p0 J J<|rA J J<|rN<|tS<|tSR<|rM J J<|ARun.qv (q_not J) J<|rN<|ATodo.cut (fun σ'=>∃ (q3 : Str) (q4 : Str) (n5 : Int) (n6 : Int) (n7 : Int) (n8 : Int),alarm_house_changes_1x_j1 p0x0 p1x0 q3 q4 n5 n6 n7 n8 = r ∧ σ' = ⟨19,[(4,.ptr b1 0),(5,.ptr b2 0),(6,.bool ((alarm_life_view p0x0 p1x0).2))],[(b1,.cells [.str [],.str [],I (0 : Int),I (0 : Int),I (0 : Int),I (0 : Int),.bool false]),(b2,.cells [.str q3,.str q4,I n5,I n6,I n7,I n8])]⟩) ?_ ?_
  · refine ATodo.cond J (fun hc=>?_) (fun hc=>?_)
    · exact have h := iteT hc h; tR<|ARun.qv (n_build J J J J J) J<|n_store_ptr J J J J .p0 J J<|rN<|ATodo.stop<|ImpX.lq [1,0] ⟨[],[],(0 : Int),(0 : Int),(0 : Int),(0 : Int),h,J⟩ J J
    · exact have h := iteFb hc h; tK<|ATodo.stop<|ImpX.lq [1,0] ⟨((alarm_life_view p0x0 p1x0).1).Device,((alarm_life_view p0x0 p1x0).1).Rule,((alarm_life_view p0x0 p1x0).1).State,((alarm_life_view p0x0 p1x0).1).Since,((alarm_life_view p0x0 p1x0).1).Raised,((alarm_life_view p0x0 p1x0).1).Shelved,h,J⟩ J J
  · rintro σ' ⟨q3, q4, n5, n6, n7, n8, h, rfl⟩
    unfold alarm_house_changes_1x_j1 at h
    refine tSR<|ARun.qv (q_load_ptr_all J J .p1 J) J<|rM J J<|ARun.qv (n_build J J J J J) J<|n_store_ptr J J J J .p0 J J<|rN<|ATodo.ret<|?_
    obtain rfl := h
    exact ImpX.here ⟨_,.cons (.all _ _ _ _ _ _ J .p0 TUnder.h TInfo.h J J) .nil,J⟩

theorem alarm_house_changes_c0x1x_c [GI : GTab] {b_0 : Bk} {b_0x2 : Bk} {b_0x2o : Nat → Bk} {b_0x2s : Nat → Nat → Bk} {b_0x0 : Bk} {b_0x1 : Bk} {p0x0 : Alarm_house} {p1x0 : List Signal} {p2x0 : Int} {r : Bool × Alarm_house} (h : alarm_house_changes_c0x1x p0x0 p1x0 p2x0 = some r) : ACall Tryz.prog 137 [.ptr b_0 0,lE2 p1x0,I p2x0] [(b_0,.cells [.mref b_0x0,.sl 1 b_0x1 0 p0x0.order_.length]),(b_0x0,.mp (p0x0.all_.map (fun e=>(Alarm_name.av e.1,(pA b_0x2o) e.2)))),(b_0x1,.arr 1 (p0x0.order_.map (pA b_0x2o))),(b_0x2,.pool (araE kE0 b_0x2o b_0x2s p0x0.ar0))] (T2 (fun c_0x1 c_0x2s=>[(b_0,.cells [.mref b_0x0,.sl 1 c_0x1 0 r.2.order_.length]),(b_0x0,.mp (r.2.all_.map (fun e=>(Alarm_name.av e.1,(pA b_0x2o) e.2)))),(c_0x1,.arr 1 (r.2.order_.map (pA b_0x2o))),(b_0x2,.pool (araE kE0 b_0x2o c_0x2s r.2.ar0))]) (fun c_0x1 c_0x2s=>.bool r.1)) := by
  unfold alarm_house_changes_c0x1x at h
  refine ACall.lessH ?_
  refine ACall.bodyN Tryz.func137 J Tryz.ntmps137 Tryz.results137 J J ?_
  refine tSR<|rA J J<|rN<|tSR<|rA J J<|rN<|tSR<|rA J J<|rN<|tS<|tSR<|rM J J<|ARun.qv (q_nilCheck_ptr J) J<|rF J J J<|rL J J .p0 J J<|ARun.qv (t_len_sl J) J<|rM J J<|rN<|ATodo.block<|ATodo.loopI (fun x : (List Alarm_seen) × Int=>alarm_house_changes_c0x1x_b1 p0x0 p1x0 p2x0 x.1 x.2) (fun x σ'=>∃ (b4 : Bk),σ' = ⟨63,[(0,.ptr b_0 0),(1,lE2 p1x0),(2,I p2x0),(7,.func (.func 181) []),(8,.sl 7 b4 0 x.1.length),(18,.sl 1 b_0x1 0 p0x0.order_.length),(19,I (p0x0.order_.length : Int)),(20,I x.2)],[(b_0,.cells [.mref b_0x0,.sl 1 b_0x1 0 p0x0.order_.length]),(b_0x0,.mp (p0x0.all_.map (fun e=>(Alarm_name.av e.1,(pA b_0x2o) e.2)))),(b_0x2,.pool (araE kE0 b_0x2o b_0x2s p0x0.ar0)),(b_0x1,.arr 1 (p0x0.order_.map (pA b_0x2o))),(b4,aE6 x.1)]⟩) h ?_ ?_
  · exact ImpX.arr (s := 8) 7 J fun b7=>ImpX.lq [1,1,2,1,0] ⟨b7,J⟩ J J
  · intro x z1 σ' J1 hmk h hJ1 hA1
    obtain ⟨l5, n6⟩ := x
    obtain ⟨b4, rfl⟩ := hmk
    replace h : alarm_house_changes_c0x1x_b1 p0x0 p1x0 p2x0 l5 n6 = some z1 := h
    unfold alarm_house_changes_c0x1x_b1 at h
    refine tSR<|ARun.qv (q_lss J J) J<|rN<|tS<|ATodo.cond_d J (fun hc=>?_) (fun hc=>?_)
    · refine have h := iteT hc h; tK<|tS<|ATodo.block<|tSR<|bndE h fun v8 e1 h=>ARun.qv (t_index_sl J J J e1) J<|ARun.qv (t_load_aptr (g := (pA b_0x2o)) J J (.inl .p3) e1 J) J<|rA J J<|rN<|tR<|rM J J<|rM J J<|rM J J<|rM J J<|ARun.qv (q_subw J J) J<|bndE h fun v9 e2 h=>r_callvpB J J (alarm_house_changes_1x_c J) (.cons (CoB.araP' (bp := b_0x2) (kb := kE0) (bs := b_0x2s) (M := p0x0.ar0) KB0 e2 .p2) (.cons (.co (.refl _)) .nil)) J J<|n_buildSliceL (xs := ([(alarm_house_changes_1x v9 (w64 (p2x0 - (1 : Int))))]).map Alarm_seen.av) J J J J J J<|bndE h fun l10 e3 h=>t_append (g := Alarm_seen.av) J J J J J J J J (.list _) e3 (fun _=>.p4) J fun b11=>rA J J<|rN<|ATodo.blk<|tR<|ARun.qv (q_addw J J) J<|rM J J<|rN<|ATodo.stop<|?_
      obtain rfl := Option.some.inj h
      exact hJ1 _ _ J<|ImpX.lq [0,0,0,0,0] ⟨b11,J⟩ J J
    · refine have h := iteF hc h; ATodo.exit J<|have h := outL h hA1; tS<|tSR<|rM J J<|ARun.qv (t_len J) J<|rM J J<|rN<|ATodo.block<|ATodo.loopI (fun x : (List (Alarm_name × Int)) × (List Alarm_life) × (List Int) × Int=>alarm_house_changes_c0x1x_b2 p1x0 p2x0 l5 x.1 x.2.1 x.2.2.1 x.2.2.2) (fun x σ'=>∃ (bs20 : Nat → Nat → Bk) (b21 : Bk),σ' = ⟨63,[(0,.ptr b_0 0),(2,I p2x0),(7,.func (.func 181) []),(8,.sl 7 b4 0 l5.length),(33,lE2 p1x0),(34,I (p1x0.length : Int)),(35,I x.2.2.2)],[(b_0,.cells [.mref b_0x0,.sl 1 b21 0 x.2.2.1.length]),(b_0x0,.mp (x.1.map (fun e=>(Alarm_name.av e.1,(pA b_0x2o) e.2)))),(b_0x2,.pool (araE kE0 b_0x2o bs20 x.2.1)),(b21,.arr 1 (x.2.2.1.map (pA b_0x2o))),(b4,aE6 l5)]⟩) h ?_ ?_
      · exact ImpX.lq [0,0,0,0,0] ⟨b_0x2s,b_0x1,J⟩ J J
      · intro x z2 σ' J2 hmk h hJ2 hA2
        obtain ⟨l18, l19, l22, n23⟩ := x
        obtain ⟨bs20, b21, rfl⟩ := hmk
        replace h : alarm_house_changes_c0x1x_b2 p1x0 p2x0 l5 l18 l19 l22 n23 = some z2 := h
        unfold alarm_house_changes_c0x1x_b2 at h
        refine tSR<|ARun.qv (q_lss J J) J<|rN<|tS<|ATodo.cond_d J (fun hc=>?_) (fun hc=>?_)
        · refine have h := iteT hc h; tK<|tS<|ATodo.block<|tSR<|bndE h fun v24 e4 h=>ARun.qv (t_index J J J e4 J J) J<|ARun.qv (q_load_rptr_agg J J J) J<|n_alloc J J J J fun b25=>n_store_ptr J J J J .p0 J J<|rN<|tR<|rM J J<|ARun.qv (q_load_ptr_all J J .p0 J) J<|bndE h fun v26 e5 h=>t_call2 J (alarm_house_follow_c0x1x_c e5) (CoL.refl _) (.cons .p1 (.cons .p1 (.cons .p2 (.cons .p1 .nil)))) (fun _ _=>J) J fun b27 bs28=>rN<|ATodo.blk<|tR<|ARun.qv (q_addw J J) J<|rM J J<|rN<|ATodo.stop<|?_
          obtain rfl := Option.some.inj h
          exact hJ2 _ _ J<|ImpX.lq [0,0,1,0,1] ⟨bs28,b27,J⟩ J J
        · refine have h := iteF hc h; ATodo.exit J<|have h := outL h hA2; tS<|tSR<|rM J J<|ARun.qv (q_nilCheck_ptr J) J<|rF J J J<|rL J J .p0 J J<|ARun.qv (t_len_sl J) J<|rM J J<|rN<|ATodo.block<|ATodo.loopI (fun x : Int=>alarm_house_changes_c0x1x_b3 p2x0 l5 l18 l19 l22 x) (fun x σ'=>σ' = ⟨63,[(2,I p2x0),(7,.func (.func 181) []),(8,.sl 7 b4 0 l5.length),(46,.sl 1 b21 0 l22.length),(47,I (l22.length : Int)),(48,I x)],[(b_0,.cells [.mref b_0x0,.sl 1 b21 0 l22.length]),(b_0x0,.mp (l18.map (fun e=>(Alarm_name.av e.1,(pA b_0x2o) e.2)))),(b_0x2,.pool (araE kE0 b_0x2o bs20 l19)),(b21,.arr 1 (l22.map (pA b_0x2o))),(b4,aE6 l5)]⟩) h ?_ ?_
          · exact ImpX.lq [0,0,0,0,0] J J J
          · intro n30 z3 σ' J3 hmk h hJ3 hA3
            obtain rfl := hmk
            replace h : alarm_house_changes_c0x1x_b3 p2x0 l5 l18 l19 l22 n30 = some z3 := h
            unfold alarm_house_changes_c0x1x_b3 at h
            refine tSR<|ARun.qv (q_lss J J) J<|rN<|tS<|ATodo.cond_d J (fun hc=>?_) (fun hc=>?_)
            · refine have h := iteT hc h; tK<|tS<|ATodo.block<|tSR<|rM J J<|bndE h fun v31 e6 h=>ARun.qv (t_index_sl J J J e6) J<|ARun.qv (t_load_aptr (g := (pA b_0x2o)) J J (.inl .p3) e6 J) J<|rA J J<|rA J J<|rN<|tS<|bndE h fun v32 e7 h=>bndE h fun v33 e8 h=>ATodo.regionT (id := 16) (A := [0,0,0,7,0,0,48,112,255]) (H0 := [(b_0x2,.pool (araE kE0 b_0x2o bs20 l19))]) (HH := fun β=>[(b_0x2,.pool (araE kE0 b_0x2o bs20 l19)),(b_0,.cells [.mref b_0x0,.sl 1 b21 0 l22.length]),(b_0x0,.mp (l18.map (fun e=>(Alarm_name.av e.1,(pA b_0x2o) e.2)))),(b21,.arr 1 (l22.map (pA b_0x2o))),(b4,aE6 l5)]) 8 mixed J (by kernel_rfl) (by kernel_rfl) [⟨none,some 3,[],fun _=>(b_0x2,.pool (araE kE0 b_0x2o bs20 l19)),none,[]⟩,⟨some 3,none,[],fun _=>(b_0x2,.pool (araE kE0 b_0x2o bs20 l19)),none,[]⟩] [] J (by kernel_rfl) J (.cons .p2 .nil) (fun _=>J)<|AT.am 3 J J<|AM.qv (q_move J) J<|AM.qv (q_move J) J<|AM.qv (q_move J) J<|AM.nil<|AT.runS (av := .agg [.str ((alarm_house_changes_1x v32 p2x0).alarm_.Device),.str ((alarm_house_changes_1x v32 p2x0).alarm_.Rule),I ((alarm_house_changes_1x v32 p2x0).alarm_.State),I ((alarm_house_changes_1x v32 p2x0).alarm_.Since),I ((alarm_house_changes_1x v32 p2x0).alarm_.Raised),I ((alarm_house_changes_1x v32 p2x0).alarm_.Shelved),.bool ((alarm_house_changes_1x v32 p2x0).is_)]) (Ti := [(b_0x2,.pool (araE kE0 b_0x2o bs20 l19))]) (Pi := [(b_0x2,.pool (araE kE0 b_0x2o bs20 l19))]) (fun _=>J) (fun _=>J) (fun _=>J) J J J ?_ ?_
              · exact r_callvpB J J (alarm_house_changes_1x_c J) (.cons (CoB.araP' (bp := b_0x2) (kb := kE0) (bs := bs20) (M := l19) KB0 e7 .p0) (.cons (.co (.refl _)) .nil)) J J<|ARun.nil ⟨_,J,J⟩
              refine AT.am 4 J J<|AM.qv (q_move J) J<|AM.qv (q_move J) J<|AM.qv (t_index_sl J J J e8) J<|AM.qv (t_load_aptr_agg (g := Alarm_seen.av) J J (.inl .p3) J e8 J) J<|AM.nil<|AT.nilN (fun _=>J) fun β=>ARun.qv (t_tne (g := Alarm_seen.av) (X := (alarm_house_changes_1x v32 p2x0)) (Y := v33) J J J J J) J<|rN<|ATodo.cond_d J (fun hc=>?_) (fun hc=>?_)
              · refine have h := iteT hc h; tSR<|rA J J<|rN<|ATodo.ret<|have h := outL h hA3; ?_
                obtain rfl := Option.some.inj h
                exact ImpX.here ⟨_,.cons (.tmp _ _ J) .nil,_,.cons .p1 (.cons .p1 (.cons .p1 (.cons .p0 .nil))),⟨b21,bs20,J,J⟩⟩
              · refine have h := iteF hc h; tK<|ATodo.blk<|tR<|ARun.qv (q_addw J J) J<|rM J J<|rN<|ATodo.stop<|?_
                obtain rfl := Option.some.inj h
                exact hJ3 _ _ J<|ImpX.lq [1,1,0,0,0] J J J
            · refine have h := iteF hc h; ATodo.exit J<|have h := outL h hA3; tSR<|rA J J<|rN<|ATodo.ret<|?_
              obtain rfl := Option.some.inj h
              exact ImpX.here ⟨_,.cons (.tmp _ _ J) .nil,_,.cons .p0 (.cons .p0 (.cons .p1 (.cons .p0 .nil))),⟨b21,bs20,J,J⟩⟩

theorem alarm_NextChange_c [GI : GTab] {p0x0 : List Signal} {p1x0 : Int} {r : Int × Bool × Int} (h : alarm_NextChange p0x0 p1x0 = some r) : Pu Tryz.prog 64 [lE2 p0x0,I p1x0] (.tup [I r.1,.bool r.2.1,I r.2.2]) := by
  unfold alarm_NextChange at h
  refine ACall.bodyN Tryz.func64 J Tryz.ntmps64 Tryz.results64 J J ?_
  refine tSR<|n_box J J J J fun b1=>rA J J<|rA J J<|rA J J<|rN<|tS<|tSR<|rM J J<|bndE h fun v2 e1 h=>r_callp J (alarm_CheckSignals_c e1) (CoL.refl _) J<|rA J J<|rN<|tSR<|rM J J<|ARun.qv (q_neq J J) J<|rN<|ATodo.cond_d J (fun hc=>?_) (fun hc=>?_)
  · refine have h := iteT hc h; tSR<|rM J J<|rA J J<|rA J J<|rA J J<|rN<|ATodo.ret<|?_
    obtain rfl := Option.some.inj h
    exact ImpX.here ⟨_,.cons (.tmp _ _ J) (.cons (.tmp _ _ J) (.cons (.tmp _ _ J) .nil)),J⟩
  · refine have h := iteF hc h; tK<|tS<|tSR<|rL J J .p0 J J<|r_callp J (base_Moment_c J) (CoL.refl _) J<|ARun.qv (q_not J) J<|rN<|ATodo.cond J (fun hc=>?_) (fun hc=>?_)
    · refine have h := iteT hc h; tSR<|rA J J<|rA J J<|rA J J<|rN<|ATodo.ret<|?_
      obtain rfl := Option.some.inj h
      exact ImpX.here ⟨_,.cons (.tmp _ _ J) (.cons (.tmp _ _ J) (.cons (.tmp _ _ J) .nil)),J⟩
    · refine have h := iteFb hc h; tK<|tSR<|rM J J<|rL J J .p0 J J<|bndE h fun v3 e2 h=>t_call6 J (alarm_at_c e2) (CoL.refl _) .nil (fun _ _ _ _ _ _=>J) J fun b4 b5 b6 b7 bo8 bs9=>rA J J<|rN<|tSR<|rM J J<|ARun.qv (q_makeFunc J) J<|bndE h fun v10 e3 h=>r_callpB J (slices_IndexFunc_Signal_Signal_c (fun e=>alarm_NextChange_1x_c (Option.some.inj e)) e3) (.cons (.co (.refl _)) (.cons (.funcL _ _ _ (.cons (.boxL _ _ _ .p4 (.cons (.co (.refl _)) .nil)) .nil)) .nil)) J J<|rA J J<|rN<|tS<|tSR<|rM J J<|ARun.qv (q_lss J J) J<|rN<|ATodo.cut (fun σ'=>∃ (n11 : Int),alarm_NextChange_j1 p0x0 p1x0 v3 n11 = some r ∧ σ' = ⟨93,[(0,lE2 p0x0),(3,.ptr b1 0),(8,.ptr b4 0),(9,I n11)],[(b1,.cells [I p1x0]),(b4,.cells [.mref b5,.sl 1 b6 0 v3.order_.length]),(b5,.mp (v3.all_.map (fun e=>(Alarm_name.av e.1,(pA bo8) e.2)))),(b7,.pool (araE kE0 bo8 bs9 v3.ar0)),(b6,.arr 1 (v3.order_.map (pA bo8)))]⟩) ?_ ?_
      · refine ATodo.cond_d J (fun hc=>?_) (fun hc=>?_)
        · exact have h := iteT hc h; tR<|rM J J<|ARun.qv (t_len J) J<|rA J J<|rN<|ATodo.stop<|ImpX.lq [4,0,0,1,0] ⟨(p0x0.length : Int),h,J⟩ J J
        · exact have h := iteF hc h; tK<|ATodo.stop<|ImpX.lq [4,0,0,1,0] ⟨v10,h,J⟩ J J
      · rintro σ' ⟨n11, h, rfl⟩
        unfold alarm_NextChange_j1 at h
        refine tSR<|rL J J .p0 J J<|rA J J<|rN<|ATodo.block<|ATodo.loopI (fun x : (List (Alarm_name × Int)) × (List Alarm_life) × (List Int) × Int × Int=>alarm_NextChange_b1 p0x0 x.1 x.2.1 x.2.2.1 x.2.2.2.1 x.2.2.2.2) (fun x σ'=>∃ (bs21 : Nat → Nat → Bk) (b22 : Bk),σ' = ⟨93,[(0,lE2 p0x0),(8,.ptr b4 0),(9,I x.2.2.2.1),(10,I x.2.2.2.2)],[(b4,.cells [.mref b5,.sl 1 b22 0 x.2.2.1.length]),(b5,.mp (x.1.map (fun e=>(Alarm_name.av e.1,(pA bo8) e.2)))),(b7,.pool (araE kE0 bo8 bs21 x.2.1)),(b22,.arr 1 (x.2.2.1.map (pA bo8)))]⟩) h ?_ ?_
        · exact ImpX.lq [1,1,1,1] ⟨bs9,b6,J⟩ J J
        · intro x z1 σ' J1 hmk h hJ1 hA1
          obtain ⟨l19, l20, l23, n24, n25⟩ := x
          obtain ⟨bs21, b22, rfl⟩ := hmk
          replace h : alarm_NextChange_b1 p0x0 l19 l20 l23 n24 n25 = some z1 := h
          unfold alarm_NextChange_b1 at h
          refine ATodo.block<|tSR<|rA J J<|rN<|tS<|tSR<|rM J J<|rM J J<|ARun.qv (t_len J) J<|ARun.qv (q_lss J J) J<|rN<|ATodo.cut (fun σ'=>∃ (n26 : Int),alarm_NextChange_j2 p0x0 l19 l20 l23 n24 n25 n26 = some z1 ∧ σ' = ⟨93,[(0,lE2 p0x0),(8,.ptr b4 0),(9,I n24),(10,I n25),(11,I n26)],[(b4,.cells [.mref b5,.sl 1 b22 0 l23.length]),(b5,.mp (l19.map (fun e=>(Alarm_name.av e.1,(pA bo8) e.2)))),(b7,.pool (araE kE0 bo8 bs21 l20)),(b22,.arr 1 (l23.map (pA bo8)))]⟩) ?_ ?_
          · refine ATodo.cond_d J (fun hc=>?_) (fun hc=>?_)
            · exact have h := iteT hc h; tR<|rM J J<|rM J J<|bndE h fun v27 e4 h=>ARun.qv (t_index J J J e4 J J) J<|ARun.qv (n_field_rptr J J) J<|ARun.qv (q_load_rptr J J J) J<|rA J J<|rN<|ATodo.stop<|ImpX.lq [0,0,0,0] ⟨v27.At,h,J⟩ J J
            · exact have h := iteF hc h; tK<|ATodo.stop<|ImpX.lq [0,0,0,0] ⟨(345686400000 : Int),h,J⟩ J J
          · rintro σ' ⟨n26, h, rfl⟩
            unfold alarm_NextChange_j2 at h
            refine tS<|tSR<|rM J J<|ARun.qv (q_nilCheck_ptr J) J<|rF J J J<|rL J J .p0 J J<|ARun.qv (t_len_sl J) J<|rM J J<|rN<|ATodo.block<|ATodo.loopI (fun x : Int × Int=>alarm_NextChange_b2 p0x0 l19 l20 l23 n24 n25 x.1 x.2) (fun x σ'=>σ' = ⟨93,[(0,lE2 p0x0),(8,.ptr b4 0),(9,I n24),(10,I n25),(11,I x.1),(46,.sl 1 b22 0 l23.length),(47,I (l23.length : Int)),(48,I x.2)],[(b4,.cells [.mref b5,.sl 1 b22 0 l23.length]),(b5,.mp (l19.map (fun e=>(Alarm_name.av e.1,(pA bo8) e.2)))),(b7,.pool (araE kE0 bo8 bs21 l20)),(b22,.arr 1 (l23.map (pA bo8)))]⟩) h ?_ ?_
            · exact ImpX.lq [0,0,0,0] J J J
            · intro x z2 σ' J2 hmk h hJ2 hA2
              obtain ⟨n30, n31⟩ := x
              obtain rfl := hmk
              replace h : alarm_NextChange_b2 p0x0 l19 l20 l23 n24 n25 n30 n31 = some z2 := h
              unfold alarm_NextChange_b2 at h
              refine tSR<|ARun.qv (q_lss J J) J<|rN<|tS<|ATodo.cond_d J (fun hc=>?_) (fun hc=>?_)
              · refine have h := iteT hc h; tK<|tS<|ATodo.block<|tSR<|bndE h fun v32 e5 h=>ARun.qv (t_index_sl J J J e5) J<|ARun.qv (t_load_aptr (g := (pA bo8)) J J (.inl .p3) e5 J) J<|rA J J<|rN<|tSR<|rM J J<|ARun.qv (q_nilCheck_ptr J) J<|rF J J J<|bndE h fun v33 e6 h=>ARun.qv (QV.ara (kb := kE0) e6 .p2 J (q_load_ptr J J .p0 J)) J<|rM J J<|ARun.qv (q_gtr J J) J<|rN<|ATodo.cut (fun σ'=>∃ (n34 : Int),alarm_NextChange_j3 n31 n34 = some z2 ∧ σ' = ⟨93,[(0,lE2 p0x0),(8,.ptr b4 0),(9,I n24),(10,I n25),(11,I n34),(46,.sl 1 b22 0 l23.length),(47,I (l23.length : Int)),(48,I n31)],[(b4,.cells [.mref b5,.sl 1 b22 0 l23.length]),(b5,.mp (l19.map (fun e=>(Alarm_name.av e.1,(pA bo8) e.2)))),(b7,.pool (araE kE0 bo8 bs21 l20)),(b22,.arr 1 (l23.map (pA bo8)))]⟩) ?_ ?_
                · refine ATodo.cond_d J (fun hc=>?_) (fun hc=>?_)
                  · exact have h := iteT hc h; tR<|rM J J<|rM J J<|ARun.qv (q_nilCheck_ptr J) J<|rF J J J<|ARun.qv (QV.ara (kb := kE0) e6 .p2 J (q_load_ptr J J .p0 J)) J<|ARun.qv (q_min J J) J<|rA J J<|rN<|ATodo.stop<|ImpX.lq [0,0,0,0] ⟨min n30 v33.shelved_,h,J⟩ J J
                  · exact have h := iteF hc h; tK<|ATodo.stop<|ImpX.lq [0,0,0,0] ⟨n30,h,J⟩ J J
                · rintro σ' ⟨n34, h, rfl⟩
                  unfold alarm_NextChange_j3 at h
                  refine ATodo.blk<|tR<|ARun.qv (q_addw J J) J<|rM J J<|rN<|ATodo.stop<|?_
                  obtain rfl := Option.some.inj h
                  exact hJ2 _ _ J<|ImpX.lq [0,0,0,0] J J J
              · refine have h := iteF hc h; ATodo.exit J<|have h := outL h hA2; ?_
                unfold alarm_NextChange_k6 at h
                refine tS<|tSR<|rM J J<|ARun.qv (q_geq J J) J<|rN<|ATodo.cond_d J (fun hc=>?_) (fun hc=>?_)
                · refine have h := iteT hc h; tSR<|rA J J<|rA J J<|rA J J<|rN<|ATodo.ret<|have h := outL h hA1; ?_
                  obtain rfl := Option.some.inj h
                  exact ImpX.here ⟨_,.cons (.tmp _ _ J) (.cons (.tmp _ _ J) (.cons (.tmp _ _ J) .nil)),J⟩
                · refine have h := iteF hc h; tK<|tSR<|rM J J<|rA J J<|rN<|tS<|ATodo.block<|ATodo.loopI (fun x : Int=>alarm_NextChange_b3 p0x0 l19 l20 l23 n24 n30 x) (fun x σ'=>σ' = ⟨93,[(0,lE2 p0x0),(8,.ptr b4 0),(9,I n24),(11,I n30),(14,I x)],[(b4,.cells [.mref b5,.sl 1 b22 0 l23.length]),(b5,.mp (l19.map (fun e=>(Alarm_name.av e.1,(pA bo8) e.2)))),(b7,.pool (araE kE0 bo8 bs21 l20)),(b22,.arr 1 (l23.map (pA bo8)))]⟩) h ?_ ?_
                  · exact ImpX.lq [0,0,0,0] J J J
                  · intro n36 z3 σ' J3 hmk h hJ3 hA3
                    obtain rfl := hmk
                    replace h : alarm_NextChange_b3 p0x0 l19 l20 l23 n24 n30 n36 = some z3 := h
                    unfold alarm_NextChange_b3 at h
                    refine tS<|tS<|ATodo.cut (fun σ'=>∃ (c37 : Bool),alarm_NextChange_j4 p0x0 l19 l20 l23 n24 n30 n36 c37 = some z3 ∧ σ' = ⟨93,[(0,lE2 p0x0),(8,.ptr b4 0),(9,I n24),(11,I n30),(14,I n36),(80,.bool c37)],[(b4,.cells [.mref b5,.sl 1 b22 0 l23.length]),(b5,.mp (l19.map (fun e=>(Alarm_name.av e.1,(pA bo8) e.2)))),(b7,.pool (araE kE0 bo8 bs21 l20)),(b22,.arr 1 (l23.map (pA bo8)))]⟩) ?_ ?_
                    · refine tR<|rM J J<|rM J J<|ARun.qv (t_len J) J<|ARun.qv (q_lss J J) J<|rM J J<|ARun.guard_dt J J J (fun hc=>?_) (fun hc=>?_)
                      · exact have h := iteT hc h; rM J J<|rY J J J<|rM J J<|rY J J J<|bndE h fun v38 e7 h=>ARun.qv (t_index J J J e7 J J) J<|rY J J J<|ARun.qv (n_field_rptr J J) J<|rY J J J<|ARun.qv (q_load_rptr J J J) J<|rY J J J<|rM J J<|rY J J J<|ARun.qv (q_eql J J) J<|rT J J J<|rN<|ATodo.stop<|ImpX.lq [0,0,0,0] ⟨decide (v38.At = n30),h,J⟩ J J
                      · exact have h := iteF hc h; rG J J J J<|rG J J J J<|rG J J J J<|rG J J J J<|rG J J J J<|rG J J J J<|rE J J J<|rN<|ATodo.stop<|ImpX.lq [0,0,0,0] ⟨false,h,J⟩ J J
                    · rintro σ' ⟨c37, h, rfl⟩
                      unfold alarm_NextChange_j4 at h
                      refine ATodo.cond J (fun hc=>?_) (fun hc=>?_)
                      · refine have h := iteT hc h; tK<|ATodo.block<|tR<|rM J J<|ARun.qv (q_addw J J) J<|rA J J<|rN<|ATodo.blk<|ATodo.stop<|?_
                        obtain rfl := Option.some.inj h
                        exact hJ3 _ _ J<|ImpX.lq [0,0,0,0] J J J
                      · refine have h := iteFb hc h; ATodo.exit J<|have h := outL h hA3; ?_
                        unfold alarm_NextChange_k5 at h
                        refine tS<|tSR<|rM J J<|rM J J<|rM J J<|rM J J<|bndE h fun l39 e8 h=>ARun.qv (t_slice_list J J (.some _ _ _ J) (.some _ _ _ J) J J e8) J<|rM J J<|bndE h fun v40 e9 h=>t_call2 J (alarm_house_changes_c0x1x_c e9) (CoL.refl _) (.cons .p0 (.cons .p0 (.cons .p1 (.cons .p0 .nil)))) (fun _ _=>J) J fun b41 bs42=>rN<|ATodo.cond J (fun hc=>?_) (fun hc=>?_)
                        · refine have h := iteT hc h; tSR<|rM J J<|rA J J<|rA J J<|rA J J<|rN<|ATodo.ret<|have h := outL h hA1; ?_
                          obtain rfl := Option.some.inj h
                          exact ImpX.here ⟨_,.cons (.tmp _ _ J) (.cons (.tmp _ _ J) (.cons (.tmp _ _ J) .nil)),J⟩
                        · refine have h := iteFb hc h; tK<|tR<|rM J J<|rM J J<|rA J J<|rA J J<|rN<|ATodo.blk<|ATodo.stop<|?_
                          obtain rfl := Option.some.inj h
                          exact hJ1 _ _ J<|ImpX.lq [0,0,1,0] ⟨bs42,b41,J⟩ J J

theorem Q_AlarmsAt_c [GI : GTab] {p0x0 : List Signal} {p1x0 : Int} {r : (List Alarm)} (h : Q_AlarmsAt p0x0 p1x0 = some r) : ACall Tryz.prog 29 [lE2 p0x0,I p1x0] [] (T1 (fun d_0=>[(d_0,aE7 r)]) (fun d_0=>.sl 6 d_0 0 r.length)) := by
  unfold Q_AlarmsAt at h
  refine ACall.lessH ?_
  refine ACall.bodyN Tryz.func29 J Tryz.ntmps29 Tryz.results29 J J ?_
  refine tSR<|rA J J<|rN<|tSR<|rA J J<|rN<|tSR<|rM J J<|rM J J<|bndE h fun v1 e1 h=>t_call1 J (Q_tracksAt_c e1) (CoL.refl _) .nil (fun _=>J) J fun b2=>rM J J<|rX J J J<|rX J J J<|rA J J<|rA J J<|rN<|tS<|tSR<|rM J J<|ARun.qv (t_len J) J<|rM J J<|rN<|ATodo.block<|ATodo.loopI (fun x : (List Alarm) × Int=>Q_AlarmsAt_b1 p1x0 v1 x.1 x.2) (fun x σ'=>∃ (b6 : Bk),σ' = ⟨40,[(1,I p1x0),(5,.sl 6 b6 0 x.1.length),(17,lE4 v1.1),(18,I (v1.1.length : Int)),(19,I x.2)],[(b6,aE7 x.1)]⟩) h ?_ ?_
  · exact ImpX.arr (s := 5) 6 J fun b9=>ImpX.lq [0] ⟨b9,J⟩ J J
  · intro x z1 σ' J1 hmk h hJ1 hA1
    obtain ⟨l7, n8⟩ := x
    obtain ⟨b6, rfl⟩ := hmk
    replace h : Q_AlarmsAt_b1 p1x0 v1 l7 n8 = some z1 := h
    unfold Q_AlarmsAt_b1 at h
    refine tSR<|ARun.qv (q_lss J J) J<|rN<|tS<|ATodo.cond_d J (fun hc=>?_) (fun hc=>?_)
    · refine have h := iteT hc h; tK<|tS<|ATodo.block<|tSR<|bndE h fun v10 e2 h=>ARun.qv (t_index J J J e2 J J) J<|ARun.qv (q_load_rptr J J J) J<|rA J J<|rN<|tSR<|rM J J<|rM J J<|bndE h fun v11 e3 h=>r_callp J (Q_track_alarm_c e3) (CoL.refl _) J<|n_alloc J J J J fun b12=>n_store_ptr J J J J .p0 J J<|rN<|tS<|ATodo.cut (fun σ'=>∃ (c13 : Bool),Q_AlarmsAt_j1 l7 n8 v11 c13 = some z1 ∧ σ' = ⟨40,[(1,I p1x0),(5,.sl 6 b6 0 l7.length),(10,.ptr b12 0),(17,lE4 v1.1),(18,I (v1.1.length : Int)),(19,I n8),(33,.bool c13)],[(b6,aE7 l7),(b12,.cells [.str v11.Device,.str v11.Rule,I v11.State,I v11.Since,I v11.Raised,I v11.Shelved])]⟩) ?_ ?_
      · refine tR<|rF J J J<|rL J J .p0 J J<|ARun.qv (q_neq J J) J<|rM J J<|ARun.guard_df J J J (fun hc=>?_) (fun hc=>?_)
        · rw [orFd hc] at h
          exact rF J J J<|rY J J J<|rL J J .p0 J J<|rY J J J<|ARun.qv (q_gtr J J) J<|rE J J J<|rN<|ATodo.stop<|ImpX.lq [1,0] ⟨decide ((0 : Int) < v11.Shelved),h,J⟩ J J
        · rw [orTd hc] at h
          exact rG J J J J<|rG J J J J<|rT J J J<|rN<|ATodo.stop<|ImpX.lq [1,0] ⟨true,h,J⟩ J J
      · rintro σ' ⟨c13, h, rfl⟩
        unfold Q_AlarmsAt_j1 at h
        refine ATodo.cut (fun σ'=>∃ (b14 : Bk) (l15 : List Alarm),Q_AlarmsAt_j2 n8 l15 = some z1 ∧ σ' = ⟨40,[(1,I p1x0),(5,.sl 6 b14 0 l15.length),(17,lE4 v1.1),(18,I (v1.1.length : Int)),(19,I n8)],[(b14,aE7 l15)]⟩) ?_ ?_
        · refine ATodo.cond J (fun hc=>?_) (fun hc=>?_)
          · exact have h := iteT hc h; tR<|rM J J<|ARun.qv (q_load_ptr_all J J .p1 J) J<|n_buildSliceL (xs := ([v11] : List Alarm).map Alarm.av) J J J J J J<|bndE h fun l16 e4 h=>t_append (g := Alarm.av) J J J J J J J J (.list _) e4 (fun _=>.p0) J fun b17=>rA J J<|rN<|ATodo.stop<|ImpX.lq [0] ⟨b17,l16,h,J⟩ J J
          · exact have h := iteFb hc h; tK<|ATodo.stop<|ImpX.lq [0] ⟨b6,l7,h,J⟩ J J
        · rintro σ' ⟨b14, l15, h, rfl⟩
          unfold Q_AlarmsAt_j2 at h
          refine ATodo.blk<|tR<|ARun.qv (q_addw J J) J<|rM J J<|rN<|ATodo.stop<|?_
          obtain rfl := Option.some.inj h
          exact hJ1 _ _ J<|ImpX.lq [0] ⟨b14,J⟩ J J
    · refine have h := iteF hc h; ATodo.exit J<|have h := outL h hA1; tSR<|rM J J<|rA J J<|rN<|ATodo.ret<|?_
      obtain rfl := Option.some.inj h
      exact ImpX.here ⟨_,.cons (.tmp _ _ J) .nil,_,.cons .p0 .nil,⟨b6,J,J⟩⟩

theorem slices_Equal_Alarm_Alarm_c [GI : GTab] {p0x0 : List Alarm} {p1x0 : List Alarm} {r : Bool} (h : slices_Equal_Alarm_Alarm p0x0 p1x0 = some r) : Pu Tryz.prog 28 [lE7 p0x0,lE7 p1x0] (.bool r) := by
  unfold slices_Equal_Alarm_Alarm at h
  refine ACall.bodyN Tryz.func28 J Tryz.ntmps28 Tryz.results28 J J ?_
  refine tSR<|rA J J<|rN<|tS<|tSR<|rM J J<|ARun.qv (t_len J) J<|rM J J<|ARun.qv (t_len J) J<|ARun.qv (q_neq J J) J<|rN<|ATodo.cond_d J (fun hc=>?_) (fun hc=>?_)
  · refine have h := iteT hc h; tSR<|rA J J<|rN<|ATodo.ret<|?_
    obtain rfl := Option.some.inj h
    exact ImpX.here ⟨_,.cons (.tmp _ _ J) .nil,J⟩
  · refine have h := iteF hc h; tK<|tS<|tSR<|rM J J<|ARun.qv (t_len J) J<|rM J J<|rN<|ATodo.block<|ATodo.loopI (fun x : Int=>slices_Equal_Alarm_Alarm_b1 p0x0 p1x0 x) (fun x σ'=>σ' = ⟨26,[(0,lE7 p0x0),(1,lE7 p1x0),(12,I (p0x0.length : Int)),(13,I x)],[]⟩) h ?_ ?_
    · exact ImpX.lq [] J J J
    · intro n2 z1 σ' J1 hmk h hJ1 hA1
      obtain rfl := hmk
      replace h : slices_Equal_Alarm_Alarm_b1 p0x0 p1x0 n2 = some z1 := h
      unfold slices_Equal_Alarm_Alarm_b1 at h
      refine tSR<|ARun.qv (q_lss J J) J<|rN<|tS<|ATodo.cond_d J (fun hc=>?_) (fun hc=>?_)
      · refine have h := iteT hc h; tK<|tS<|ATodo.block<|tSR<|rM J J<|rA J J<|rN<|tS<|ATodo.regionM (id := 6) (A := [0,0,3,7,0,0,48,112,255]) 9 mixed J (by kernel_rfl) (by kernel_rfl)<|AM.qv (q_move J) J<|AM.qv (q_move J) J<|bndE h fun v3 e1 h=>AM.qv (t_index J J J e1 J J) J<|AM.qv (q_load_rptr_agg J J J) J<|AM.qv (q_move J) J<|AM.qv (q_move J) J<|bndE h fun v4 e2 h=>AM.qv (t_index J J J e2 J J) J<|AM.qv (q_load_rptr_agg J J J) J<|AM.qv (t_tne (g := Alarm.av) (X := v3) (Y := v4) J J J J J) J<|AM.nil<|rN<|ATodo.cond_d J (fun hc=>?_) (fun hc=>?_)
        · refine have h := iteT hc h; tSR<|rA J J<|rN<|ATodo.ret<|have h := outL h hA1; ?_
          obtain rfl := Option.some.inj h
          exact ImpX.here ⟨_,.cons (.tmp _ _ J) .nil,J⟩
        · refine have h := iteF hc h; tK<|ATodo.blk<|tR<|ARun.qv (q_addw J J) J<|rM J J<|rN<|ATodo.stop<|?_
          obtain rfl := Option.some.inj h
          exact hJ1 _ _ J<|ImpX.lq [] J J J
      · refine have h := iteF hc h; ATodo.exit J<|have h := outL h hA1; tSR<|rA J J<|rN<|ATodo.ret<|?_
        obtain rfl := Option.some.inj h
        exact ImpX.here ⟨_,.cons (.tmp _ _ J) .nil,J⟩

theorem Q_NextAlarms_c [GI : GTab] {p0x0 : List Signal} {p1x0 : Int} {r : Int × Bool} (h : Q_NextAlarms p0x0 p1x0 = some r) : Pu Tryz.prog 65 [lE2 p0x0,I p1x0] (.tup [I r.1,.bool r.2]) := by
  unfold Q_NextAlarms at h
  refine ACall.bodyN Tryz.func65 J Tryz.ntmps65 Tryz.results65 J J ?_
  refine tSR<|rA J J<|rA J J<|rN<|tS<|tSR<|rM J J<|bndE h fun v1 e1 h=>t_call1 J (Q_signalMoments_c e1) (CoL.refl _) .nil (fun _=>J) J fun b2=>ARun.qv (t_len_sl J) J<|rM J J<|rN<|ATodo.block<|ATodo.loopI (fun x : Int=>Q_NextAlarms_b1 p0x0 p1x0 v1 x) (fun x σ'=>σ' = ⟨35,[(0,lE2 p0x0),(1,I p1x0),(9,.sl 1 b2 0 v1.length),(10,I (v1.length : Int)),(11,I x)],[(b2,aE0 v1)]⟩) h ?_ ?_
  · exact ImpX.lq [0] J J J
  · intro n4 z1 σ' J1 hmk h hJ1 hA1
    obtain rfl := hmk
    replace h : Q_NextAlarms_b1 p0x0 p1x0 v1 n4 = some z1 := h
    unfold Q_NextAlarms_b1 at h
    refine tSR<|ARun.qv (q_lss J J) J<|rN<|tS<|ATodo.cond_d J (fun hc=>?_) (fun hc=>?_)
    · refine have h := iteT hc h; tK<|tS<|ATodo.block<|tSR<|bndE h fun v5 e2 h=>ARun.qv (t_index_sl J J J e2) J<|ARun.qv (t_load_aptr (g := I) J J (.inl .p0) e2 J) J<|rA J J<|rN<|tS<|ATodo.cut (fun σ'=>∃ (c6 : Bool),Q_NextAlarms_j1 n4 v5 c6 = some z1 ∧ σ' = ⟨35,[(0,lE2 p0x0),(1,I p1x0),(7,I v5),(9,.sl 1 b2 0 v1.length),(10,I (v1.length : Int)),(11,I n4),(32,.bool c6)],[(b2,aE0 v1)]⟩) ?_ ?_
      · refine tR<|rM J J<|rM J J<|ARun.qv (q_gtr J J) J<|rM J J<|ARun.guard_dt J J J (fun hc=>?_) (fun hc=>?_)
        · refine have h := iteT hc h; rM J J<|rY J J J<|ARun.qv (q_lss J J) J<|rT J J J<|rM J J<|ARun.guard_dt J J J (fun hc=>?_) (fun hc=>?_)
          · exact have h := iteT hc h; rM J J<|rY J J J<|rM J J<|rY J J J<|bndE h fun v7 e3 h=>t_call1 J (Q_AlarmsAt_c e3) (CoL.refl _) .nil (fun _=>J) J fun b8=>rY J J J<|rM J J<|rY J J J<|rM J J<|rY J J J<|ARun.qv (q_subw J J) J<|rY J J J<|bndE h fun v9 e4 h=>t_call1 J (Q_AlarmsAt_c e4) (CoL.refl _) .nil (fun _=>J) J fun b10=>rY J J J<|bndE h fun v11 e5 h=>r_callpB J (slices_Equal_Alarm_Alarm_c e5) (.cons (CoB.arrT .p1) (.cons (CoB.arrT .p0) .nil)) J J<|rY J J J<|ARun.qv (q_not J) J<|rT J J J<|rN<|ATodo.stop<|ImpX.lq [2] ⟨!v11,h,J⟩ J J
          · exact have h := iteF hc h; rG J J J J<|rG J J J J<|rG J J J J<|rG J J J J<|rG J J J J<|rG J J J J<|rG J J J J<|rG J J J J<|rE J J J<|rN<|ATodo.stop<|ImpX.lq [0] ⟨false,h,J⟩ J J
        · exact have h := iteF hc h; rG J J J J<|rE J J J<|rM J J<|rG J J J J<|rG J J J J<|rG J J J J<|rG J J J J<|rG J J J J<|rG J J J J<|rG J J J J<|rG J J J J<|rG J J J J<|rE J J J<|rN<|ATodo.stop<|ImpX.lq [0] ⟨false,h,J⟩ J J
      · rintro σ' ⟨c6, h, rfl⟩
        unfold Q_NextAlarms_j1 at h
        refine ATodo.cond J (fun hc=>?_) (fun hc=>?_)
        · refine have h := iteT hc h; tSR<|rM J J<|rA J J<|rA J J<|rN<|ATodo.ret<|have h := outL h hA1; ?_
          obtain rfl := Option.some.inj h
          exact ImpX.here ⟨_,.cons (.tmp _ _ J) (.cons (.tmp _ _ J) .nil),J⟩
        · refine have h := iteFb hc h; tK<|ATodo.blk<|tR<|ARun.qv (q_addw J J) J<|rM J J<|rN<|ATodo.stop<|?_
          obtain rfl := Option.some.inj h
          exact hJ1 _ _ J<|ImpX.lq [0] J J J
    · refine have h := iteF hc h; ATodo.exit J<|have h := outL h hA1; tSR<|rA J J<|rA J J<|rN<|ATodo.ret<|?_
      obtain rfl := Option.some.inj h
      exact ImpX.here ⟨_,.cons (.tmp _ _ J) (.cons (.tmp _ _ J) .nil),J⟩

theorem alarm_flapFault_c [GI : GTab] {p0x0 : Flap} {r : Int} (h : alarm_flapFault p0x0 = r) : Pu Tryz.prog 118 [Flap.av p0x0] (I r) := by
  unfold alarm_flapFault at h
  refine ACall.bodyN Tryz.func118 J Tryz.ntmps118 Tryz.results118 J J ?_
  refine tSR<|n_box J J J J fun b1=>rA J J<|rN<|tS<|tS<|ATodo.cut (fun σ'=>∃ (c2 : Bool),alarm_flapFault_j1 c2 = r ∧ σ' = ⟨16,[(15,.bool c2)],[]⟩) ?_ ?_
  · refine tR<|rF J J J<|rL J J .p0 J J<|r_callp J (base_Out_c J) (CoL.refl _) J<|rM J J<|ARun.guard J J J (fun hc=>?_) (fun hc=>?_)
    · rw [orFb hc] at h
      refine rF J J J<|rY J J J<|rL J J .p0 J J<|rY J J J<|r_callp J (base_Out_c J) (CoL.refl _) J<|rE J J J<|rM J J<|ARun.guard J J J (fun hc=>?_) (fun hc=>?_)
      · rw [orFb hc] at h
        exact rF J J J<|rY J J J<|rL J J .p0 J J<|rY J J J<|r_callp J (base_Out_c J) (CoL.refl _) J<|rE J J J<|rN<|ATodo.stop<|ImpX.lq [] ⟨(base_Out p0x0.Calm (1 : Int) (2592000000 : Int)),h,J⟩ J J
      · rw [orTb hc] at h
        exact rG J J J J<|rG J J J J<|rT J J J<|rN<|ATodo.stop<|ImpX.lq [] ⟨true,h,J⟩ J J
    · rw [orTb hc] at h
      exact rG J J J J<|rG J J J J<|rT J J J<|rM J J<|rG J J J J<|rG J J J J<|rG J J J J<|rT J J J<|rN<|ATodo.stop<|ImpX.lq [] ⟨true,h,J⟩ J J
  · rintro σ' ⟨c2, h, rfl⟩
    unfold alarm_flapFault_j1 at h
    refine ATodo.cond J (fun hc=>?_) (fun hc=>?_)
    · refine have h := iteT hc h; tSR<|rA J J<|rN<|ATodo.ret<|?_
      obtain rfl := h
      exact ImpX.here ⟨_,.cons (.tmp _ _ J) .nil,J⟩
    · refine have h := iteFb hc h; tK<|tSR<|rA J J<|rN<|ATodo.ret<|?_
      obtain rfl := h
      exact ImpX.here ⟨_,.cons (.tmp _ _ J) .nil,J⟩

theorem base_First_c [GI : GTab] {p0x0 : List Int} {r : Int} (h : base_First p0x0 = some r) : Pu Tryz.prog 80 [lE0 p0x0] (I r) := by
  unfold base_First at h
  refine ACall.bodyN Tryz.func80 J Tryz.ntmps80 Tryz.results80 J J ?_
  refine tSR<|rA J J<|rN<|tS<|tSR<|rM J J<|ARun.qv (t_len J) J<|rM J J<|rN<|ATodo.block<|ATodo.loopI (fun x : Int=>base_First_b1 p0x0 x) (fun x σ'=>σ' = ⟨15,[(5,lE0 p0x0),(6,I (p0x0.length : Int)),(7,I x)],[]⟩) h ?_ ?_
  · exact ImpX.lq [] J J J
  · intro n2 z1 σ' J1 hmk h hJ1 hA1
    obtain rfl := hmk
    replace h : base_First_b1 p0x0 n2 = some z1 := h
    unfold base_First_b1 at h
    refine tSR<|ARun.qv (q_lss J J) J<|rN<|tS<|ATodo.cond_d J (fun hc=>?_) (fun hc=>?_)
    · refine have h := iteT hc h; tK<|tS<|ATodo.block<|tSR<|bndE h fun v3 e1 h=>ARun.qv (t_index J J J e1 J J) J<|ARun.qv (q_load_rptr J J J) J<|rA J J<|rN<|tSR<|rM J J<|ARun.qv (q_neq J J) J<|rN<|ATodo.cond_d J (fun hc=>?_) (fun hc=>?_)
      · refine have h := iteT hc h; tSR<|rM J J<|rA J J<|rN<|ATodo.ret<|have h := outL h hA1; ?_
        obtain rfl := Option.some.inj h
        exact ImpX.here ⟨_,.cons (.tmp _ _ J) .nil,J⟩
      · refine have h := iteF hc h; tK<|ATodo.blk<|tR<|ARun.qv (q_addw J J) J<|rM J J<|rN<|ATodo.stop<|?_
        obtain rfl := Option.some.inj h
        exact hJ1 _ _ J<|ImpX.lq [] J J J
    · refine have h := iteF hc h; ATodo.exit J<|have h := outL h hA1; tSR<|rA J J<|rN<|ATodo.ret<|?_
      obtain rfl := Option.some.inj h
      exact ImpX.here ⟨_,.cons (.tmp _ _ J) .nil,J⟩

theorem alarm_flaps_c [GI : GTab] {p0x0 : Flap} {p1x0 : List Int} {r : (List Window)} (h : alarm_flaps p0x0 p1x0 = some r) : ACall Tryz.prog 139 [Flap.av p0x0,lE0 p1x0] [] (T1 (fun d_0=>[(d_0,aE3 r)]) (fun d_0=>.sl 2 d_0 0 r.length)) := by
  unfold alarm_flaps at h
  refine ACall.lessH ?_
  refine ACall.bodyN Tryz.func139 J Tryz.ntmps139 Tryz.results139 J J ?_
  refine tSR<|n_box J J J J fun b1=>rA J J<|rN<|tSR<|rA J J<|rN<|tSR<|rA J J<|rN<|tS<|tSR<|rM J J<|ARun.qv (t_len J) J<|rM J J<|rN<|ATodo.block<|ATodo.loopI (fun x : (List Window) × Int × Int=>alarm_flaps_b1 p0x0 p1x0 x.1 x.2.1 x.2.2) (fun x σ'=>∃ (b6 : Bk),σ' = ⟨87,[(1,lE0 p1x0),(2,.ptr b1 0),(5,.sl 2 b6 0 x.1.length),(6,I x.2.1),(11,lE0 p1x0),(12,I (p1x0.length : Int)),(13,I x.2.2)],[(b1,.cells [I p0x0.Many,I p0x0.Window,I p0x0.Calm]),(b6,aE3 x.1)]⟩) h ?_ ?_
  · exact ImpX.arr (s := 5) 2 J fun b10=>ImpX.lq [1,0] ⟨b10,J⟩ J J
  · intro x z1 σ' J1 hmk h hJ1 hA1
    obtain ⟨l7, n8, n9⟩ := x
    obtain ⟨b6, rfl⟩ := hmk
    replace h : alarm_flaps_b1 p0x0 p1x0 l7 n8 n9 = some z1 := h
    unfold alarm_flaps_b1 at h
    refine tSR<|ARun.qv (q_lss J J) J<|rN<|tS<|ATodo.cond_d J (fun hc=>?_) (fun hc=>?_)
    · refine have h := iteT hc h; tK<|tS<|ATodo.block<|tSR<|rM J J<|bndE h fun v11 e1 h=>ARun.qv (t_index J J J e1 J J) J<|ARun.qv (q_load_rptr J J J) J<|rA J J<|rA J J<|rN<|tS<|ATodo.block<|ATodo.loopI (fun x : Int=>alarm_flaps_b2 p0x0 p1x0 l7 n9 v11 x) (fun x σ'=>σ' = ⟨87,[(1,lE0 p1x0),(2,.ptr b1 0),(5,.sl 2 b6 0 l7.length),(6,I x),(7,I n9),(8,I v11),(11,lE0 p1x0),(12,I (p1x0.length : Int)),(13,I n9)],[(b1,.cells [I p0x0.Many,I p0x0.Window,I p0x0.Calm]),(b6,aE3 l7)]⟩) h ?_ ?_
      · exact ImpX.lq [0,0] J J J
      · intro n13 z2 σ' J2 hmk h hJ2 hA2
        obtain rfl := hmk
        replace h : alarm_flaps_b2 p0x0 p1x0 l7 n9 v11 n13 = some z2 := h
        unfold alarm_flaps_b2 at h
        refine tS<|tS<|ATodo.regionM (id := 6) (A := [0,0,3,7,0,0,32,112,255]) 9 mixed J (by kernel_rfl) (by kernel_rfl)<|AM.qv (q_move J) J<|AM.qv (q_move J) J<|bndE h fun v14 e2 h=>AM.qv (t_index J J J e2 J J) J<|AM.qv (q_load_rptr J J J) J<|AM.qv (q_move J) J<|AM.qv (n_field_ptr J J) J<|AM.qv (q_load_ptr J J .p0 J) J<|AM.qv (q_subw J J) J<|AM.qv (q_leq J J) J<|AM.nil<|rN<|ATodo.cond_d J (fun hc=>?_) (fun hc=>?_)
        · refine have h := iteT hc h; tK<|ATodo.block<|tR<|rM J J<|ARun.qv (q_addw J J) J<|rA J J<|rN<|ATodo.blk<|ATodo.stop<|?_
          obtain rfl := Option.some.inj h
          exact hJ2 _ _ J<|ImpX.lq [0,0] J J J
        · refine have h := iteF hc h; ATodo.exit J<|have h := outL h hA2; ?_
          unfold alarm_flaps_k4 at h
          refine tSR<|rM J J<|ARun.qv (t_len_sl J) J<|ARun.qv (q_subw J J) J<|rA J J<|rN<|ATodo.block<|tS<|ATodo.cut (fun σ'=>∃ (c15 : Bool),alarm_flaps_j1 p0x0 l7 n9 v11 n13 c15 = some z1 ∧ σ' = ⟨87,[(1,lE0 p1x0),(2,.ptr b1 0),(5,.sl 2 b6 0 l7.length),(6,I n13),(7,I n9),(8,I v11),(9,I (w64 ((l7.length : Int) - (1 : Int)))),(11,lE0 p1x0),(12,I (p1x0.length : Int)),(13,I n9),(32,.bool c15)],[(b1,.cells [I p0x0.Many,I p0x0.Window,I p0x0.Calm]),(b6,aE3 l7)]⟩) ?_ ?_
          · refine tR<|rM J J<|ARun.qv (q_geq J J) J<|rM J J<|ARun.guard_dt J J J (fun hc=>?_) (fun hc=>?_)
            · exact have h := iteT hc h; rM J J<|rY J J J<|rM J J<|rY J J J<|rM J J<|rY J J J<|bndE h fun v16 e3 h=>ARun.qv (t_index_sl J J J e3) J<|rY J J J<|ARun.qv (t_field_aptr J J) J<|rY J J J<|ARun.qv (t_load_aptr (g := Window.av) J J (.inl .p1) e3 J) J<|rY J J J<|ARun.qv (q_leq J J) J<|rT J J J<|rA J J<|rN<|ATodo.stop<|ImpX.lq [0,0] ⟨decide (v11 ≤ v16.To),h,J⟩ J J
            · exact have h := iteF hc h; rG J J J J<|rG J J J J<|rG J J J J<|rG J J J J<|rG J J J J<|rG J J J J<|rE J J J<|rA J J<|rN<|ATodo.stop<|ImpX.lq [0,0] ⟨false,h,J⟩ J J
          · rintro σ' ⟨c15, h, rfl⟩
            unfold alarm_flaps_j1 at h
            refine ATodo.cut (fun σ'=>∃ (b17 : Bk) (l18 : List Window),alarm_flaps_j2 n9 n13 l18 = some z1 ∧ σ' = ⟨87,[(1,lE0 p1x0),(2,.ptr b1 0),(5,.sl 2 b17 0 l18.length),(6,I n13),(11,lE0 p1x0),(12,I (p1x0.length : Int)),(13,I n9)],[(b1,.cells [I p0x0.Many,I p0x0.Window,I p0x0.Calm]),(b17,aE3 l18)]⟩) ?_ ?_
            · refine ATodo.cond J (fun hc=>?_) (fun hc=>?_)
              · exact have h := iteT hc h; tR<|rM J J<|rM J J<|rM J J<|rF J J J<|rL J J .p0 J J<|ARun.qv (q_addw J J) J<|bndE h fun v19 e4 h=>ARun.qv (t_index_sl J J J e4) J<|ARun.qv (t_field_aptr J J) J<|t_store_aptr1 (g := Window.av) (el' := (⟨v19.From,w64 (v11 + p0x0.Calm)⟩ : Window)) J J J J e4 J .p1 J<|ARun.ghost<|ImpX.eqs (s := 5) (av' := .sl 2 b6 0 (l7.set (w64 ((l7.length : Int) - (1 : Int))).toNat (⟨v19.From,w64 (v11 + p0x0.Calm)⟩ : Window)).length) J (by rw [List.length_set])<|ImpX.here<|ARun.ghost<|ImpX.eqs (s := 44) (av' := .sl 2 b6 0 (l7.set (w64 ((l7.length : Int) - (1 : Int))).toNat (⟨v19.From,w64 (v11 + p0x0.Calm)⟩ : Window)).length) J (by rw [List.length_set])<|ImpX.here<|rN<|ATodo.stop<|ImpX.lq [0,0] ⟨b6,l7.set (w64 ((l7.length : Int) - (1 : Int))).toNat (⟨v19.From,w64 (v11 + p0x0.Calm)⟩ : Window),h,J⟩ J J
              · refine have h := iteFb hc h; tSR<|rM J J<|rM J J<|ARun.qv (q_subw J J) J<|ARun.qv (q_addw J J) J<|rF J J J<|rL J J .p0 J J<|ARun.qv (q_geq J J) J<|rA J J<|rN<|ATodo.cut (fun σ'=>∃ (b20 : Bk) (l21 : List Window),alarm_flaps_j3 n9 n13 l21 = some z1 ∧ σ' = ⟨87,[(1,lE0 p1x0),(2,.ptr b1 0),(5,.sl 2 b20 0 l21.length),(6,I n13),(11,lE0 p1x0),(12,I (p1x0.length : Int)),(13,I n9)],[(b1,.cells [I p0x0.Many,I p0x0.Window,I p0x0.Calm]),(b20,aE3 l21)]⟩) ?_ ?_
                · refine ATodo.cond_d J (fun hc=>?_) (fun hc=>?_)
                  · exact have h := iteT hc h; tR<|rM J J<|rM J J<|rM J J<|rF J J J<|rL J J .p0 J J<|ARun.qv (q_addw J J) J<|ARun.qv (n_build J J J J J) J<|n_buildSliceL (xs := ([(⟨v11,w64 (v11 + p0x0.Calm)⟩ : Window)]).map Window.av) J J J J J J<|bndE h fun l22 e5 h=>t_append (g := Window.av) J J J J J J J J (.list _) e5 (fun _=>.p1) J fun b23=>rA J J<|rN<|ATodo.stop<|ImpX.lq [0,0] ⟨b23,l22,h,J⟩ J J
                  · exact have h := iteF hc h; tK<|ATodo.stop<|ImpX.lq [0,0] ⟨b6,l7,h,J⟩ J J
                · rintro σ' ⟨b20, l21, h, rfl⟩
                  unfold alarm_flaps_j3 at h
                  exact ATodo.stop<|ImpX.lq [0,0] ⟨b20,l21,h,J⟩ J J
            · rintro σ' ⟨b17, l18, h, rfl⟩
              unfold alarm_flaps_j2 at h
              refine ATodo.blk<|ATodo.blk<|tR<|ARun.qv (q_addw J J) J<|rM J J<|rN<|ATodo.stop<|?_
              obtain rfl := Option.some.inj h
              exact hJ1 _ _ J<|ImpX.lq [0,0] ⟨b17,J⟩ J J
    · refine have h := iteF hc h; ATodo.exit J<|have h := outL h hA1; tS<|tSR<|rM J J<|ARun.qv (t_len_sl J) J<|rM J J<|rN<|ATodo.block<|ATodo.loopI (fun x : (List Window) × Int=>alarm_flaps_b3 l7 x.1 x.2) (fun x σ'=>σ' = ⟨87,[(5,.sl 2 b6 0 x.1.length),(71,I (l7.length : Int)),(72,I x.2)],[(b6,aE3 x.1)]⟩) h ?_ ?_
      · exact ImpX.lq [1] J J J
      · intro x z3 σ' J3 hmk h hJ3 hA3
        obtain ⟨l26, n27⟩ := x
        obtain rfl := hmk
        replace h : alarm_flaps_b3 l7 l26 n27 = some z3 := h
        unfold alarm_flaps_b3 at h
        refine tSR<|ARun.qv (q_lss J J) J<|rN<|tS<|ATodo.cond_d J (fun hc=>?_) (fun hc=>?_)
        · refine have h := iteT hc h; tK<|tS<|ATodo.block<|tSR<|rM J J<|rA J J<|rN<|tR<|rM J J<|rM J J<|rM J J<|rM J J<|bndE h fun v28 e6 h=>ARun.qv (t_index_sl J J J e6) J<|ARun.qv (t_field_aptr J J) J<|ARun.qv (t_load_aptr (g := Window.av) J J (.inl .p0) e6 J) J<|ARun.qv (q_min J J) J<|bndE h fun v29 e7 h=>ARun.qv (t_index_sl J J J e7) J<|ARun.qv (t_field_aptr J J) J<|t_store_aptr1 (g := Window.av) (el' := (⟨v29.From,min v28.To (345686400000 : Int)⟩ : Window)) J J J J e7 J .p0 J<|ARun.ghost<|ImpX.eqs (s := 5) (av' := .sl 2 b6 0 (l26.set n27.toNat (⟨v29.From,min v28.To (345686400000 : Int)⟩ : Window)).length) J (by rw [List.length_set])<|ImpX.here<|ARun.ghost<|ImpX.eqs (s := 75) (av' := .sl 2 b6 0 (l26.set n27.toNat (⟨v29.From,min v28.To (345686400000 : Int)⟩ : Window)).length) J (by rw [List.length_set])<|ImpX.here<|ARun.ghost<|ImpX.eqs (s := 77) (av' := .sl 2 b6 0 (l26.set n27.toNat (⟨v29.From,min v28.To (345686400000 : Int)⟩ : Window)).length) J (by rw [List.length_set])<|ImpX.here<|rN<|ATodo.blk<|tR<|ARun.qv (q_addw J J) J<|rM J J<|rN<|ATodo.stop<|?_
          obtain rfl := Option.some.inj h
          exact hJ3 _ _ J<|ImpX.lq [0] J J J
        · refine have h := iteF hc h; ATodo.exit J<|have h := outL h hA3; tSR<|rM J J<|rA J J<|rN<|ATodo.ret<|?_
          obtain rfl := Option.some.inj h
          exact ImpX.here ⟨_,.cons (.tmp _ _ J) .nil,_,.cons .p0 .nil,⟨b6,J,J⟩⟩

theorem alarm_Flapping_c [GI : GTab] {p0x0 : Flap} {p1x0 : List Signal} {p2x0 : Str} {p3x0 : Str} {r : (List Window) × Int} (h : alarm_Flapping p0x0 p1x0 p2x0 p3x0 = some r) : ACall Tryz.prog 66 [Flap.av p0x0,lE2 p1x0,.str p2x0,.str p3x0] [] (T1 (fun d_0=>[(d_0,aE3 r.1)]) (fun d_0=>.tup [.sl 2 d_0 0 r.1.length,I r.2])) := by
  unfold alarm_Flapping at h
  refine ACall.lessH ?_
  refine ACall.bodyN Tryz.func66 J Tryz.ntmps66 Tryz.results66 J J ?_
  refine tSR<|n_box J J J J fun b1=>rA J J<|rA J J<|rN<|tS<|tSR<|ARun.qv (q_load_ptr_all J J .p0 J) J<|r_callp J (alarm_flapFault_c J) (CoL.refl _) J<|rM J J<|rM J J<|rM J J<|bndE h fun v2 e1 h=>r_callp J (alarm_nameFault_c e1) (CoL.refl _) J<|n_buildSliceL (xs := ([(alarm_flapFault p0x0),v2] : List Int).map I) J J J J J J<|bndE h fun v3 e2 h=>r_callp J (base_First_c e2) (CoL.refl _) J<|rA J J<|rN<|tSR<|rM J J<|ARun.qv (q_neq J J) J<|rN<|ATodo.cond_d J (fun hc=>?_) (fun hc=>?_)
  · refine have h := iteT hc h; tSR<|rM J J<|rA J J<|rA J J<|rN<|ATodo.ret<|?_
    obtain rfl := Option.some.inj h
    exact ImpX.arr (s := 8) 2 J fun b4=>ImpX.here ⟨_,.cons (.tmp _ _ J) (.cons (.tmp _ _ J) .nil),_,.cons .p0 .nil,⟨b4,J,J⟩⟩
  · refine have h := iteF hc h; tK<|tSR<|rM J J<|bndE h fun v5 e3 h=>t_call6 J (alarm_at_c e3) (CoL.refl _) .nil (fun _ _ _ _ _ _=>J) J fun b6 b7 b8 b9 bo10 bs11=>ARun.qv (q_nilCheck_ptr J) J<|rF J J J<|rL J J .p0 J J<|rM J J<|rM J J<|ARun.qv (n_build J J J J J) J<|optE h (fun e4 h=>?_) (fun n12 e4 h=>?_)
    · refine ARun.qv (t_lookupA0 (gk := Alarm_name.av) (gv := (pA bo10)) (M := v5.all_) (key := (⟨p2x0,p3x0⟩ : Alarm_name)) J J .p1 J e4) J<|rA J J<|rN<|tS<|tSR<|rM J J<|ARun.qv (q_ppneql J J) J<|rN<|ATodo.cond_t J<|tSR<|rA J J<|rA J J<|rN<|ATodo.ret<|?_
      obtain rfl := Option.some.inj h
      exact ImpX.arr (s := 8) 2 J fun b13=>ImpX.here ⟨_,.cons (.tmp _ _ J) (.cons (.tmp _ _ J) .nil),_,.cons .p0 .nil,⟨b13,J,J⟩⟩
    · refine ARun.qv (t_lookupA1 (gk := Alarm_name.av) (gv := (pA bo10)) (M := v5.all_) (key := (⟨p2x0,p3x0⟩ : Alarm_name)) J J .p1 e4) J<|rA J J<|rN<|tS<|tSR<|rM J J<|ARun.qv (q_ppeql J J) J<|rN<|ATodo.cond_f J<|tK<|tS<|ATodo.regionM (id := 7) (A := [0,0,2,6,14,31,63,127]) 5 mixed J (by kernel_rfl) (by kernel_rfl)<|AM.qv (q_load_ptr_all J J .p4 J) J<|AM.qv (q_move J) J<|AM.qv (q_nilCheck_ptr J) J<|AM.qv (n_field_ptr J J) J<|bndE h fun v14 e5 h=>AM.qv (QV.ara (kb := kE0) e5 .p3 J (q_load_ptr J J .p0 J)) J<|AM.nil<|ARun.ghost<|ImpX.araTakeN (kb := kE0) e5 .p3 J<|ImpX.here<|bndE h fun v15 e6 h=>t_callL1 J (alarm_flaps_c e6) .nil (.cons (.co (.refl _)) (.cons (CoB.arrT .p1) .nil)) (fun _=>J) (fun _=>J) (fun _=>(.cons (NoS.arrT (fun _=>J)) .nil)) J fun b16=>rA J J<|rA J J<|ARun.ghost<|ImpX.araBack (kb := kE0) e5 (.cons .p1 (.cons .p1 (.cons .p1 (.cons .p1 (.cons .p1 (.cons .p1 (.cons .p1 .nil))))))) J .p4<|ImpX.here<|rN<|ATodo.ret<|?_
      obtain rfl := Option.some.inj h
      exact ImpX.here ⟨_,.cons (.tmp _ _ J) (.cons (.tmp _ _ J) .nil),_,.cons .p0 .nil,⟨b16,J,J⟩⟩

theorem Q_FlapFault_c [GI : GTab] {p0x0 : Flap} {r : Int} (h : Q_FlapFault p0x0 = r) : Pu Tryz.prog 67 [Flap.av p0x0] (I r) := by
  unfold Q_FlapFault at h
  refine ACall.bodyN Tryz.func67 J Tryz.ntmps67 Tryz.results67 J J ?_
  refine tSR<|n_box J J J J fun b1=>rA J J<|rN<|tS<|tS<|ATodo.cut (fun σ'=>∃ (c2 : Bool),Q_FlapFault_j1 c2 = r ∧ σ' = ⟨19,[(18,.bool c2)],[]⟩) ?_ ?_
  · refine tR<|rF J J J<|rL J J .p0 J J<|r_callp J (Q_in_c J) (CoL.refl _) J<|ARun.qv (q_not J) J<|rM J J<|ARun.guard J J J (fun hc=>?_) (fun hc=>?_)
    · rw [orFb hc] at h
      refine rF J J J<|rY J J J<|rL J J .p0 J J<|rY J J J<|r_callp J (Q_in_c J) (CoL.refl _) J<|rY J J J<|ARun.qv (q_not J) J<|rE J J J<|rM J J<|ARun.guard J J J (fun hc=>?_) (fun hc=>?_)
      · rw [orFb hc] at h
        exact rF J J J<|rY J J J<|rL J J .p0 J J<|rY J J J<|r_callp J (Q_in_c J) (CoL.refl _) J<|rY J J J<|ARun.qv (q_not J) J<|rE J J J<|rN<|ATodo.stop<|ImpX.lq [] ⟨!(Q_in p0x0.Calm (1 : Int) (2592000000 : Int)),h,J⟩ J J
      · rw [orTb hc] at h
        exact rG J J J J<|rG J J J J<|rG J J J J<|rT J J J<|rN<|ATodo.stop<|ImpX.lq [] ⟨true,h,J⟩ J J
    · rw [orTb hc] at h
      exact rG J J J J<|rG J J J J<|rG J J J J<|rT J J J<|rM J J<|rG J J J J<|rG J J J J<|rG J J J J<|rG J J J J<|rT J J J<|rN<|ATodo.stop<|ImpX.lq [] ⟨true,h,J⟩ J J
  · rintro σ' ⟨c2, h, rfl⟩
    unfold Q_FlapFault_j1 at h
    refine ATodo.cond J (fun hc=>?_) (fun hc=>?_)
    · refine have h := iteT hc h; tSR<|rA J J<|rN<|ATodo.ret<|?_
      obtain rfl := h
      exact ImpX.here ⟨_,.cons (.tmp _ _ J) .nil,J⟩
    · refine have h := iteFb hc h; tK<|tSR<|rA J J<|rN<|ATodo.ret<|?_
      obtain rfl := h
      exact ImpX.here ⟨_,.cons (.tmp _ _ J) .nil,J⟩

theorem Q_raisesOf_c [GI : GTab] {p0x0 : List Signal} {p1x0 : Str} {p2x0 : Str} {r : (List Int)} (h : Q_raisesOf p0x0 p1x0 p2x0 = some r) : ACall Tryz.prog 140 [lE2 p0x0,.str p1x0,.str p2x0] [] (T1 (fun d_0=>[(d_0,aE0 r)]) (fun d_0=>.sl 1 d_0 0 r.length)) := by
  unfold Q_raisesOf at h
  refine ACall.lessH ?_
  refine ACall.bodyN Tryz.func140 J Tryz.ntmps140 Tryz.results140 J J ?_
  refine tSR<|rA J J<|rN<|tSR<|rM J J<|bndE h fun v1 e1 h=>t_call1 J (Q_tracksAt_c e1) (CoL.refl _) .nil (fun _=>J) J fun b2=>rM J J<|rX J J J<|rX J J J<|rA J J<|rA J J<|rN<|tSR<|rA J J<|rN<|tS<|tSR<|rM J J<|ARun.qv (t_len J) J<|rM J J<|rN<|ATodo.block<|ATodo.loopI (fun x : (List Int) × Int=>Q_raisesOf_b1 p1x0 p2x0 v1 x.1 x.2) (fun x σ'=>∃ (b6 : Bk),σ' = ⟨61,[(1,.str p1x0),(2,.str p2x0),(9,.sl 1 b6 0 x.1.length),(19,lE4 v1.1),(20,I (v1.1.length : Int)),(21,I x.2)],[(b6,aE0 x.1)]⟩) h ?_ ?_
  · exact ImpX.arr (s := 9) 1 J fun b9=>ImpX.lq [0] ⟨b9,J⟩ J J
  · intro x z1 σ' J1 hmk h hJ1 hA1
    obtain ⟨l7, n8⟩ := x
    obtain ⟨b6, rfl⟩ := hmk
    replace h : Q_raisesOf_b1 p1x0 p2x0 v1 l7 n8 = some z1 := h
    unfold Q_raisesOf_b1 at h
    refine tSR<|ARun.qv (q_lss J J) J<|rN<|tS<|ATodo.cond_d J (fun hc=>?_) (fun hc=>?_)
    · refine have h := iteT hc h; tK<|tS<|ATodo.block<|tSR<|bndE h fun v10 e2 h=>ARun.qv (t_index J J J e2 J J) J<|ARun.qv (q_load_rptr J J J) J<|rA J J<|rN<|tSR<|rM J J<|ARun.qv (q_nilCheck_rptr J) J<|ARun.qv (n_field_rptr J J) J<|ARun.qv (q_load_rptr J J J) J<|ARun.qv (t_len J) J<|rM J J<|rN<|ATodo.block<|ATodo.loopI (fun x : (List Int) × Int=>Q_raisesOf_b2 p1x0 p2x0 n8 v10 x.1 x.2) (fun x σ'=>∃ (b14 : Bk),σ' = ⟨61,[(1,.str p1x0),(2,.str p2x0),(9,.sl 1 b14 0 x.1.length),(11,.rptr [.str v10.device_,.str v10.rule_,lE2 v10.done_,I v10.state_,I v10.shelved_.From,I v10.shelved_.To]),(19,lE4 v1.1),(20,I (v1.1.length : Int)),(21,I n8),(28,lE2 v10.done_),(29,I (v10.done_.length : Int)),(30,I x.2)],[(b14,aE0 x.1)]⟩) h ?_ ?_
      · exact ImpX.lq [0] ⟨b6,J⟩ J J
      · intro x z2 σ' J2 hmk h hJ2 hA2
        obtain ⟨l15, n16⟩ := x
        obtain ⟨b14, rfl⟩ := hmk
        replace h : Q_raisesOf_b2 p1x0 p2x0 n8 v10 l15 n16 = some z2 := h
        unfold Q_raisesOf_b2 at h
        refine tSR<|ARun.qv (q_lss J J) J<|rN<|tS<|ATodo.cond_d J (fun hc=>?_) (fun hc=>?_)
        · refine have h := iteT hc h; tK<|tS<|ATodo.block<|tSR<|bndE h fun v17 e3 h=>ARun.qv (t_index J J J e3 J J) J<|ARun.qv (q_load_rptr_agg J J J) J<|n_alloc J J J J fun b18=>n_store_ptr J J J J .p0 J J<|rN<|tS<|ATodo.cut (fun σ'=>∃ (c19 : Bool),Q_raisesOf_j1 l15 n16 v17 c19 = some z2 ∧ σ' = ⟨61,[(1,.str p1x0),(2,.str p2x0),(9,.sl 1 b14 0 l15.length),(11,.rptr [.str v10.device_,.str v10.rule_,lE2 v10.done_,I v10.state_,I v10.shelved_.From,I v10.shelved_.To]),(13,.ptr b18 0),(19,lE4 v1.1),(20,I (v1.1.length : Int)),(21,I n8),(28,lE2 v10.done_),(29,I (v10.done_.length : Int)),(30,I n16),(52,.bool c19)],[(b14,aE0 l15),(b18,.cells (cE0 v17))]⟩) ?_ ?_
          · refine tR<|rM J J<|ARun.qv (q_nilCheck_rptr J) J<|ARun.qv (n_field_rptr J J) J<|ARun.qv (q_load_rptr J J J) J<|rM J J<|ARun.qv (q_seq J J) J<|rM J J<|ARun.guard_dt J J J (fun hc=>?_) (fun hc=>?_)
            · rw [andTd hc] at h
              refine rM J J<|rY J J J<|ARun.qv (q_nilCheck_rptr J) J<|rY J J J<|ARun.qv (n_field_rptr J J) J<|rY J J J<|ARun.qv (q_load_rptr J J J) J<|rY J J J<|rM J J<|rY J J J<|ARun.qv (q_seq J J) J<|rT J J J<|rM J J<|ARun.guard_dt J J J (fun hc=>?_) (fun hc=>?_)
              · rw [andTd hc] at h
                exact rF J J J<|rY J J J<|rL J J .p0 J J<|rY J J J<|ARun.qv (q_eql J J) J<|rT J J J<|rN<|ATodo.stop<|ImpX.lq [1,0] ⟨decide (v17.Kind = (1 : Int)),h,J⟩ J J
              · rw [andFd hc] at h
                exact rG J J J J<|rG J J J J<|rE J J J<|rN<|ATodo.stop<|ImpX.lq [1,0] ⟨false,h,J⟩ J J
            · rw [andFd hc] at h
              exact rG J J J J<|rG J J J J<|rG J J J J<|rG J J J J<|rG J J J J<|rE J J J<|rM J J<|rG J J J J<|rG J J J J<|rG J J J J<|rE J J J<|rN<|ATodo.stop<|ImpX.lq [1,0] ⟨false,h,J⟩ J J
          · rintro σ' ⟨c19, h, rfl⟩
            unfold Q_raisesOf_j1 at h
            refine ATodo.cut (fun σ'=>∃ (b20 : Bk) (l21 : List Int),Q_raisesOf_j2 n16 l21 = some z2 ∧ σ' = ⟨61,[(1,.str p1x0),(2,.str p2x0),(9,.sl 1 b20 0 l21.length),(11,.rptr [.str v10.device_,.str v10.rule_,lE2 v10.done_,I v10.state_,I v10.shelved_.From,I v10.shelved_.To]),(19,lE4 v1.1),(20,I (v1.1.length : Int)),(21,I n8),(28,lE2 v10.done_),(29,I (v10.done_.length : Int)),(30,I n16)],[(b20,aE0 l21)]⟩) ?_ ?_
            · refine ATodo.cond J (fun hc=>?_) (fun hc=>?_)
              · exact have h := iteT hc h; tR<|rM J J<|rF J J J<|rL J J .p1 J J<|n_buildSliceL (xs := ([v17.At] : List Int).map I) J J J J J J<|bndE h fun l22 e4 h=>t_append (g := I) J J J J J J J J (.list _) e4 (fun _=>.p0) J fun b23=>rA J J<|rN<|ATodo.stop<|ImpX.lq [0] ⟨b23,l22,h,J⟩ J J
              · exact have h := iteFb hc h; tK<|ATodo.stop<|ImpX.lq [0] ⟨b14,l15,h,J⟩ J J
            · rintro σ' ⟨b20, l21, h, rfl⟩
              unfold Q_raisesOf_j2 at h
              refine ATodo.blk<|tR<|ARun.qv (q_addw J J) J<|rM J J<|rN<|ATodo.stop<|?_
              obtain rfl := Option.some.inj h
              exact hJ2 _ _ J<|ImpX.lq [0] ⟨b20,J⟩ J J
        · refine have h := iteF hc h; ATodo.exit J<|have h := outL h hA2; ATodo.blk<|tR<|ARun.qv (q_addw J J) J<|rM J J<|rN<|ATodo.stop<|?_
          obtain rfl := Option.some.inj h
          exact hJ1 _ _ J<|ImpX.lq [0] ⟨b14,J⟩ J J
    · refine have h := iteF hc h; ATodo.exit J<|have h := outL h hA1; tSR<|rM J J<|rA J J<|rN<|ATodo.ret<|?_
      obtain rfl := Option.some.inj h
      exact ImpX.here ⟨_,.cons (.tmp _ _ J) .nil,_,.cons .p0 .nil,⟨b6,J,J⟩⟩

theorem Q_FlapTimes_c [GI : GTab] {p0x0 : Flap} {p1x0 : List Signal} {p2x0 : Str} {p3x0 : Str} {r : (List Window)} (h : Q_FlapTimes p0x0 p1x0 p2x0 p3x0 = some r) : ACall Tryz.prog 68 [Flap.av p0x0,lE2 p1x0,.str p2x0,.str p3x0] [] (T1 (fun d_0=>[(d_0,aE3 r)]) (fun d_0=>.sl 2 d_0 0 r.length)) := by
  unfold Q_FlapTimes at h
  refine ACall.lessH ?_
  refine ACall.bodyN Tryz.func68 J Tryz.ntmps68 Tryz.results68 J J ?_
  refine tSR<|n_box J J J J fun b1=>rA J J<|rN<|tSR<|rM J J<|rM J J<|rM J J<|bndE h fun v2 e1 h=>t_call1 J (Q_raisesOf_c e1) (CoL.refl _) .nil (fun _=>J) J fun b3=>rA J J<|rN<|tSR<|rA J J<|rN<|tS<|tSR<|rM J J<|ARun.qv (t_len_sl J) J<|rM J J<|rN<|ATodo.block<|ATodo.loopI (fun x : (List Window) × Int=>Q_FlapTimes_b1 p0x0 v2 x.1 x.2) (fun x σ'=>∃ (b7 : Bk),σ' = ⟨86,[(4,.ptr b1 0),(9,.sl 1 b3 0 v2.length),(10,.sl 2 b7 0 x.1.length),(22,.sl 1 b3 0 v2.length),(23,I (v2.length : Int)),(24,I x.2)],[(b1,.cells [I p0x0.Many,I p0x0.Window,I p0x0.Calm]),(b3,aE0 v2),(b7,aE3 x.1)]⟩) h ?_ ?_
  · exact ImpX.arr (s := 10) 2 J fun b10=>ImpX.lq [2,1,0] ⟨b10,J⟩ J J
  · intro x z1 σ' J1 hmk h hJ1 hA1
    obtain ⟨l8, n9⟩ := x
    obtain ⟨b7, rfl⟩ := hmk
    replace h : Q_FlapTimes_b1 p0x0 v2 l8 n9 = some z1 := h
    unfold Q_FlapTimes_b1 at h
    refine tSR<|ARun.qv (q_lss J J) J<|rN<|tS<|ATodo.cond_d J (fun hc=>?_) (fun hc=>?_)
    · refine have h := iteT hc h; tK<|tS<|ATodo.block<|tSR<|rM J J<|bndE h fun v11 e2 h=>ARun.qv (t_index_sl J J J e2) J<|ARun.qv (t_load_aptr (g := I) J J (.inl .p1) e2 J) J<|rA J J<|rA J J<|rN<|tSR<|rA J J<|rN<|tS<|tSR<|rM J J<|rM J J<|ARun.qv (q_addw J J) J<|bndE h fun l12 e3 h=>ARun.qv (t_slice_sl J J .none (.some _ _ _ J) J J e3) J<|ARun.qv (t_len_sub J) J<|rM J J<|rN<|ATodo.block<|ATodo.loopI (fun x : Int × Int=>Q_FlapTimes_b2 p0x0 v2 l8 n9 v11 l12 x.1 x.2) (fun x σ'=>σ' = ⟨86,[(4,.ptr b1 0),(9,.sl 1 b3 0 v2.length),(10,.sl 2 b7 0 l8.length),(12,I v11),(13,I x.1),(22,.sl 1 b3 0 v2.length),(23,I (v2.length : Int)),(24,I n9),(32,.sl 1 b3 0 l12.length),(33,I (l12.length : Int)),(34,I x.2)],[(b1,.cells [I p0x0.Many,I p0x0.Window,I p0x0.Calm]),(b3,aE0 v2),(b7,aE3 l8)]⟩) h ?_ ?_
      · exact ImpX.lq [0,0,0] J J J
      · intro x z2 σ' J2 hmk h hJ2 hA2
        obtain ⟨n15, n16⟩ := x
        obtain rfl := hmk
        replace h : Q_FlapTimes_b2 p0x0 v2 l8 n9 v11 l12 n15 n16 = some z2 := h
        unfold Q_FlapTimes_b2 at h
        refine tSR<|ARun.qv (q_lss J J) J<|rN<|tS<|ATodo.cond_d J (fun hc=>?_) (fun hc=>?_)
        · refine have h := iteT hc h; tK<|tS<|ATodo.block<|tSR<|bndE h fun v17 e4 h=>ARun.qv (t_index_sub (L := (0 : Int)) J J J e4) J<|ARun.qv (t_load_aptr (g := I) J J (.inl .p1) (idxS_some e4).2 J) J<|rA J J<|rN<|tSR<|rM J J<|rM J J<|rF J J J<|rL J J .p0 J J<|ARun.qv (q_subw J J) J<|ARun.qv (q_gtr J J) J<|rN<|ATodo.cut (fun σ'=>∃ (n18 : Int),Q_FlapTimes_j1 n16 n18 = some z2 ∧ σ' = ⟨86,[(4,.ptr b1 0),(9,.sl 1 b3 0 v2.length),(10,.sl 2 b7 0 l8.length),(12,I v11),(13,I n18),(22,.sl 1 b3 0 v2.length),(23,I (v2.length : Int)),(24,I n9),(32,.sl 1 b3 0 l12.length),(33,I (l12.length : Int)),(34,I n16)],[(b1,.cells [I p0x0.Many,I p0x0.Window,I p0x0.Calm]),(b3,aE0 v2),(b7,aE3 l8)]⟩) ?_ ?_
          · refine ATodo.cond_d J (fun hc=>?_) (fun hc=>?_)
            · exact have h := iteT hc h; tR<|rM J J<|ARun.qv (q_addw J J) J<|rA J J<|rN<|ATodo.stop<|ImpX.lq [0,0,0] ⟨w64 (n15 + (1 : Int)),h,J⟩ J J
            · exact have h := iteF hc h; tK<|ATodo.stop<|ImpX.lq [0,0,0] ⟨n15,h,J⟩ J J
          · rintro σ' ⟨n18, h, rfl⟩
            unfold Q_FlapTimes_j1 at h
            refine ATodo.blk<|tR<|ARun.qv (q_addw J J) J<|rM J J<|rN<|ATodo.stop<|?_
            obtain rfl := Option.some.inj h
            exact hJ2 _ _ J<|ImpX.lq [0,0,0] J J J
        · refine have h := iteF hc h; ATodo.exit J<|have h := outL h hA2; ?_
          unfold Q_FlapTimes_k5 at h
          refine tSR<|rM J J<|ARun.qv (t_len_sl J) J<|rA J J<|rN<|tSR<|rM J J<|rF J J J<|rL J J .p0 J J<|ARun.qv (q_addw J J) J<|ARun.qv (q_min J J) J<|rA J J<|rN<|ATodo.block<|tS<|ATodo.cut (fun σ'=>∃ (c19 : Bool),Q_FlapTimes_j2 p0x0 l8 n9 v11 n15 c19 = some z1 ∧ σ' = ⟨86,[(4,.ptr b1 0),(9,.sl 1 b3 0 v2.length),(10,.sl 2 b7 0 l8.length),(12,I v11),(13,I n15),(16,I (l8.length : Int)),(17,I (min (w64 (v11 + p0x0.Calm)) (345686400000 : Int))),(22,.sl 1 b3 0 v2.length),(23,I (v2.length : Int)),(24,I n9),(54,.bool c19)],[(b1,.cells [I p0x0.Many,I p0x0.Window,I p0x0.Calm]),(b3,aE0 v2),(b7,aE3 l8)]⟩) ?_ ?_
          · refine tR<|rM J J<|ARun.qv (q_gtr J J) J<|rM J J<|ARun.guard_dt J J J (fun hc=>?_) (fun hc=>?_)
            · exact have h := iteT hc h; rM J J<|rY J J J<|rM J J<|rY J J J<|rM J J<|rY J J J<|ARun.qv (q_subw J J) J<|rY J J J<|bndE h fun v20 e5 h=>ARun.qv (t_index_sl J J J e5) J<|rY J J J<|ARun.qv (t_field_aptr J J) J<|rY J J J<|ARun.qv (t_load_aptr (g := Window.av) J J (.inl .p2) e5 J) J<|rY J J J<|ARun.qv (q_leq J J) J<|rT J J J<|rA J J<|rN<|ATodo.stop<|ImpX.lq [0,0,0] ⟨decide (v11 ≤ v20.To),h,J⟩ J J
            · exact have h := iteF hc h; rG J J J J<|rG J J J J<|rG J J J J<|rG J J J J<|rG J J J J<|rG J J J J<|rG J J J J<|rE J J J<|rA J J<|rN<|ATodo.stop<|ImpX.lq [0,0,0] ⟨false,h,J⟩ J J
          · rintro σ' ⟨c19, h, rfl⟩
            unfold Q_FlapTimes_j2 at h
            refine ATodo.cut (fun σ'=>∃ (b21 : Bk) (l22 : List Window),Q_FlapTimes_j3 n9 l22 = some z1 ∧ σ' = ⟨86,[(4,.ptr b1 0),(9,.sl 1 b3 0 v2.length),(10,.sl 2 b21 0 l22.length),(22,.sl 1 b3 0 v2.length),(23,I (v2.length : Int)),(24,I n9)],[(b1,.cells [I p0x0.Many,I p0x0.Window,I p0x0.Calm]),(b3,aE0 v2),(b21,aE3 l22)]⟩) ?_ ?_
            · refine ATodo.cond J (fun hc=>?_) (fun hc=>?_)
              · exact have h := iteT hc h; tR<|rM J J<|rM J J<|ARun.qv (q_subw J J) J<|rM J J<|bndE h fun v23 e6 h=>ARun.qv (t_index_sl J J J e6) J<|ARun.qv (t_field_aptr J J) J<|t_store_aptr1 (g := Window.av) (el' := (⟨v23.From,min (w64 (v11 + p0x0.Calm)) (345686400000 : Int)⟩ : Window)) J J J J e6 J .p2 J<|ARun.ghost<|ImpX.eqs (s := 10) (av' := .sl 2 b7 0 (l8.set (w64 ((l8.length : Int) - (1 : Int))).toNat (⟨v23.From,min (w64 (v11 + p0x0.Calm)) (345686400000 : Int)⟩ : Window)).length) J (by rw [List.length_set])<|ImpX.here<|ARun.ghost<|ImpX.eqs (s := 67) (av' := .sl 2 b7 0 (l8.set (w64 ((l8.length : Int) - (1 : Int))).toNat (⟨v23.From,min (w64 (v11 + p0x0.Calm)) (345686400000 : Int)⟩ : Window)).length) J (by rw [List.length_set])<|ImpX.here<|rN<|ATodo.stop<|ImpX.lq [0,0,0] ⟨b7,l8.set (w64 ((l8.length : Int) - (1 : Int))).toNat (⟨v23.From,min (w64 (v11 + p0x0.Calm)) (345686400000 : Int)⟩ : Window),h,J⟩ J J
              · refine have h := iteFb hc h; tSR<|rM J J<|rF J J J<|rL J J .p0 J J<|ARun.qv (q_geq J J) J<|rA J J<|rN<|ATodo.cut (fun σ'=>∃ (b24 : Bk) (l25 : List Window),Q_FlapTimes_j4 n9 l25 = some z1 ∧ σ' = ⟨86,[(4,.ptr b1 0),(9,.sl 1 b3 0 v2.length),(10,.sl 2 b24 0 l25.length),(22,.sl 1 b3 0 v2.length),(23,I (v2.length : Int)),(24,I n9)],[(b1,.cells [I p0x0.Many,I p0x0.Window,I p0x0.Calm]),(b3,aE0 v2),(b24,aE3 l25)]⟩) ?_ ?_
                · refine ATodo.cond_d J (fun hc=>?_) (fun hc=>?_)
                  · exact have h := iteT hc h; tR<|rM J J<|rM J J<|rM J J<|ARun.qv (n_build J J J J J) J<|n_buildSliceL (xs := ([(⟨v11,min (w64 (v11 + p0x0.Calm)) (345686400000 : Int)⟩ : Window)]).map Window.av) J J J J J J<|bndE h fun l26 e7 h=>t_append (g := Window.av) J J J J J J J J (.list _) e7 (fun _=>.p2) J fun b27=>rA J J<|rN<|ATodo.stop<|ImpX.lq [0,0,0] ⟨b27,l26,h,J⟩ J J
                  · exact have h := iteF hc h; tK<|ATodo.stop<|ImpX.lq [0,0,0] ⟨b7,l8,h,J⟩ J J
                · rintro σ' ⟨b24, l25, h, rfl⟩
                  unfold Q_FlapTimes_j4 at h
                  exact ATodo.stop<|ImpX.lq [0,0,0] ⟨b24,l25,h,J⟩ J J
            · rintro σ' ⟨b21, l22, h, rfl⟩
              unfold Q_FlapTimes_j3 at h
              refine ATodo.blk<|ATodo.blk<|tR<|ARun.qv (q_addw J J) J<|rM J J<|rN<|ATodo.stop<|?_
              obtain rfl := Option.some.inj h
              exact hJ1 _ _ J<|ImpX.lq [0,0,0] ⟨b21,J⟩ J J
    · refine have h := iteF hc h; ATodo.exit J<|have h := outL h hA1; tSR<|rM J J<|rA J J<|rN<|ATodo.ret<|?_
      obtain rfl := Option.some.inj h
      exact ImpX.here ⟨_,.cons (.tmp _ _ J) .nil,_,.cons .p2 .nil,⟨b7,J,J⟩⟩

theorem alarm_AlarmOf_c [GI : GTab] {p0x0 : List Signal} {p1x0 : Str} {p2x0 : Str} {p3x0 : Int} {r : Alarm × Int} (h : alarm_AlarmOf p0x0 p1x0 p2x0 p3x0 = some r) : Pu Tryz.prog 30 [lE2 p0x0,.str p1x0,.str p2x0,I p3x0] (.tup [Alarm.av r.1,I r.2]) := by
  unfold alarm_AlarmOf at h
  refine ACall.bodyN Tryz.func30 J Tryz.ntmps30 Tryz.results30 J J ?_
  refine tSR<|n_alloc J J J J fun b1=>rA J J<|rN<|tS<|tSR<|rM J J<|rM J J<|rM J J<|bndE h fun v2 e1 h=>r_callp J (alarm_nameFault_c e1) (CoL.refl _) J<|rA J J<|rN<|tSR<|rM J J<|ARun.qv (q_neq J J) J<|rN<|ATodo.cond_d J (fun hc=>?_) (fun hc=>?_)
  · refine have h := iteT hc h; tSR<|ARun.qv (n_build J J J J J) J<|rM J J<|n_store_ptr J J J J .p0 J J<|rA J J<|rN<|ATodo.ret<|?_
    obtain rfl := Option.some.inj h
    exact ImpX.here ⟨_,.cons (.all _ _ _ _ _ _ J .p0 TUnder.h TInfo.h J J) (.cons (.tmp _ _ J) .nil),J⟩
  · refine have h := iteF hc h; tK<|tS<|tSR<|rM J J<|r_callp J (base_Moment_c J) (CoL.refl _) J<|ARun.qv (q_not J) J<|rN<|ATodo.cond J (fun hc=>?_) (fun hc=>?_)
    · refine have h := iteT hc h; tSR<|ARun.qv (n_build J J J J J) J<|n_store_ptr J J J J .p0 J J<|rA J J<|rN<|ATodo.ret<|?_
      obtain rfl := Option.some.inj h
      exact ImpX.here ⟨_,.cons (.all _ _ _ _ _ _ J .p0 TUnder.h TInfo.h J J) (.cons (.tmp _ _ J) .nil),J⟩
    · refine have h := iteFb hc h; tK<|tSR<|rM J J<|rM J J<|bndE h fun v3 e2 h=>t_call6 J (alarm_at_c e2) (CoL.refl _) .nil (fun _ _ _ _ _ _=>J) J fun b4 b5 b6 b7 bo8 bs9=>ARun.qv (q_nilCheck_ptr J) J<|rF J J J<|rL J J .p0 J J<|rM J J<|rM J J<|ARun.qv (n_build J J J J J) J<|optE h (fun e3 h=>?_) (fun n10 e3 h=>?_)
      · refine ARun.qv (t_lookupA0 (gk := Alarm_name.av) (gv := (pA bo8)) (M := v3.all_) (key := (⟨p1x0,p2x0⟩ : Alarm_name)) J J .p1 J e3) J<|rA J J<|rN<|tS<|tSR<|rM J J<|ARun.qv (q_ppneql J J) J<|rN<|ATodo.cond_t J<|tSR<|rM J J<|rM J J<|ARun.qv (n_build J J J J J) J<|n_store_ptr J J J J .p4 J J<|rA J J<|rN<|ATodo.ret<|?_
        obtain rfl := Option.some.inj h
        exact ImpX.here ⟨_,.cons (.all _ _ _ _ _ _ J .p4 TUnder.h TInfo.h J J) (.cons (.tmp _ _ J) .nil),J⟩
      · refine ARun.qv (t_lookupA1 (gk := Alarm_name.av) (gv := (pA bo8)) (M := v3.all_) (key := (⟨p1x0,p2x0⟩ : Alarm_name)) J J .p1 e3) J<|rA J J<|rN<|tS<|tSR<|rM J J<|ARun.qv (q_ppeql J J) J<|rN<|ATodo.cond_f J<|tK<|tSR<|rM J J<|rM J J<|bndE h fun v11 e4 h=>r_callpB J (alarm_life_view_c J) (.cons (CoB.araP' (bp := b7) (kb := kE0) (bs := bs9) (M := v3.ar0) KB0 e4 .p3) (.cons (.co (.refl _)) .nil)) J J<|rM J J<|rX J J J<|rX J J J<|n_alloc J J J J fun b12=>n_store_ptr J J J J .p0 J J<|rA J J<|rN<|tSR<|ARun.qv (q_load_ptr_all J J .p0 J) J<|n_store_ptr J J J J .p5 J J<|rA J J<|rN<|ATodo.ret<|?_
        obtain rfl := Option.some.inj h
        exact ImpX.here ⟨_,.cons (.all _ _ _ _ _ _ J .p5 TUnder.h TInfo.h J J) (.cons (.tmp _ _ J) .nil),J⟩

theorem L_alarmed_c [GI : GTab] {r : Bool} (h : L_alarmed = some r) : Pu Tryz.prog 32 [] (.bool r) := by
  unfold L_alarmed at h
  refine ACall.bodyN Tryz.func32 J Tryz.ntmps32 Tryz.results32 J J ?_
  refine tSR<|rA J J<|rN<|tSR<|ARun.qv (n_build J J J J J) J<|n_buildSliceL (xs := ([(⟨(1 : Int),(1 : Int),([100] : Str),([114] : Str),[],(0 : Int)⟩ : Signal)]).map Signal.av) J J J J J J<|bndE h fun v1 e1 h=>r_callp J (alarm_AlarmOf_c e1) (CoL.refl _) J<|rM J J<|rX J J J<|rX J J J<|n_alloc J J J J fun b2=>n_store_ptr J J J J .p0 J J<|rA J J<|rN<|tS<|ATodo.cut (fun σ'=>∃ (c3 : Bool),L_alarmed_j1 c3 = some r ∧ σ' = ⟨16,[(0,.bool c3)],[]⟩) ?_ ?_
  · refine tR<|rM J J<|ARun.qv (q_eql J J) J<|rM J J<|ARun.guard_dt J J J (fun hc=>?_) (fun hc=>?_)
    · rw [andTd hc] at h
      exact rF J J J<|rY J J J<|rL J J .p0 J J<|rY J J J<|ARun.qv (q_eql J J) J<|rT J J J<|rA J J<|rN<|ATodo.stop<|ImpX.lq [] ⟨decide (v1.1.State = (1 : Int)),h,J⟩ J J
    · rw [andFd hc] at h
      exact rG J J J J<|rG J J J J<|rE J J J<|rA J J<|rN<|ATodo.stop<|ImpX.lq [] ⟨false,h,J⟩ J J
  · rintro σ' ⟨c3, h, rfl⟩
    unfold L_alarmed_j1 at h
    refine ATodo.ret<|?_
    obtain rfl := Option.some.inj h
    exact ImpX.here ⟨_,.cons (.tmp _ _ J) .nil,J⟩

theorem L_AlarmsTimed_c {p0x0 : List Int} {r : Bool} (h : L_AlarmsTimed p0x0 = some r) : Pu Tryz.prog 6 [lE0 p0x0] (.bool r) := by
  unfold L_AlarmsTimed at h
  refine ACall.bodyN Tryz.func6 J Tryz.ntmps6 Tryz.results6 J J ?_
  refine tSR<|rA J J<|rN<|tSR<|rM J J<|ARun.qv (n_build J J J J J) J<|n_box J J J J fun b1=>rA J J<|rN<|tSR<|rM J J<|rM J J<|bndE h fun v2 e1 h=>t_call0 J (Stream_Range_c e1) (CoL.refl _) (.cons .p0 .nil) J J<|bndE h fun v3 e2 h=>t_call1 J (Stream_Signals_c e2) (CoL.refl _) (.cons .p0 .nil) (fun _=>J) J fun b4=>rM J J<|bndE h fun v5 e3 h=>t_call0 J (Stream_Flap_c e3) (CoL.refl _) (.cons .p0 .nil) J J<|rM J J<|bndE h fun v6 e4 h=>t_call0 J (Stream_Time_c e4) (CoL.refl _) (.cons .p0 .nil) J J<|rM J J<|n_buildSliceL (xs := ([([100,97] : Str),([100,97] : Str),([100,98] : Str),([65] : Str)]).map AV.str) J J J J J J<|bndE h fun v7 e5 h=>t_call0 J (Stream_Some_c e5) (CoL.refl _) (.cons .p0 .nil) J J<|rM J J<|n_buildSliceL (xs := ([([114,97] : Str),([114,97] : Str),([114,98] : Str),([] : Str)]).map AV.str) J J J J J J<|bndE h fun v8 e6 h=>t_call0 J (Stream_Some_c e6) (CoL.refl _) (.cons .p0 .nil) J J<|n_alloc J J J J fun b9=>rA J J<|n_store_ptr J J J J .p0 J J<|rA J J<|rA J J<|rA J J<|rN<|tSR<|rM J J<|bndE h fun v10 e7 h=>r_callpB J (Q_SignalsFault_c e7) (.cons (CoB.arrT .p2) .nil) J J<|rA J J<|rN<|tSR<|rM J J<|bndE h fun v11 e8 h=>r_callp J (Q_KeyFault_c e8) (CoL.refl _) J<|rM J J<|bndE h fun v12 e9 h=>r_callp J (Q_KeyFault_c e9) (CoL.refl _) J<|n_buildSliceL (xs := ([v11,v12] : List Int).map I) J J J J J J<|bndE h fun v13 e10 h=>r_callp J (cmp_Or_Errno_c e10) (CoL.refl _) J<|rA J J<|rN<|tSR<|rM J J<|rM J J<|rM J J<|bndE h fun v14 e11 h=>t_callL1 J (alarm_Active_c e11) .nil (.cons (CoB.arrT .p2) (.cons (.co (.refl _)) (.cons (.co (.refl _)) .nil))) (fun _=>J) (fun _=>J) (fun _=>(.cons (NoS.arrT (fun _=>J)) .nil)) J fun b15=>rM J J<|rX J J J<|rX J J J<|rA J J<|rA J J<|rN<|tSR<|rM J J<|rM J J<|n_buildSliceL (xs := ([v10,v13] : List Int).map I) J J J J J J<|bndE h fun v16 e12 h=>r_callp J (cmp_Or_Errno_c e12) (CoL.refl _) J<|rA J J<|rN<|tS<|tS<|ATodo.cut (fun σ'=>∃ (c17 : Bool),L_AlarmsTimed_j1 v3 v5 v6 v7 v8 v10 v13 c17 = some r ∧ σ' = ⟨138,[(4,.sl 6 b4 0 v3.1.length),(5,.ptr b9 0),(6,I v6.1),(7,.str v7.1),(8,.str v8.1),(9,I v10),(10,I v13),(71,.bool c17)],[(b4,aE2 v3.1),(b9,.cells [I v5.1.Many,I v5.1.Window,I v5.1.Calm])]⟩) ?_ ?_
  · refine tR<|rM J J<|rM J J<|ARun.qv (q_neq J J) J<|rM J J<|ARun.guard_df J J J (fun hc=>?_) (fun hc=>?_)
    · refine have h := iteF hc h; rM J J<|rY J J J<|ARun.qv (q_eql J J) J<|rY J J J<|rM J J<|ARun.guard_dt J J J (fun hc=>?_) (fun hc=>?_)
      · exact have h := iteT hc h; rM J J<|rY J J J<|rM J J<|rY J J J<|rM J J<|rY J J J<|rM J J<|rY J J J<|bndE h fun v18 e13 h=>t_callL1 J (Q_ActiveTimes_c e13) .nil (.cons (CoB.arrT .p3) (.cons (.co (.refl _)) (.cons (.co (.refl _)) .nil))) (fun _=>J) (fun _=>J) (fun _=>(.cons (NoS.arrT (fun _=>J)) .nil)) J fun b19=>rY J J J<|bndE h fun v20 e14 h=>r_callpB J (slices_Equal_Window_Window_c e14) (.cons (CoB.arrT .p1) (.cons (CoB.arrT .p0) .nil)) J J<|rY J J J<|ARun.qv (q_not J) J<|rY J J J<|rT J J J<|rE J J J<|rN<|ATodo.stop<|ImpX.lq [4,2] ⟨!v20,h,J⟩ J J
      · exact have h := iteF hc h; rG J J J J<|rG J J J J<|rG J J J J<|rG J J J J<|rG J J J J<|rG J J J J<|rY J J J<|rE J J J<|rE J J J<|rN<|ATodo.stop<|ImpX.lq [3,1] ⟨false,h,J⟩ J J
    · exact have h := iteT hc h; rG J J J J<|rG J J J J<|ARun.guard_und J J J<|ARun.guard_und J J J<|ARun.guard_und J J J<|ARun.guard_und J J J<|ARun.guard_und J J J<|ARun.guard_und J J J<|ARun.guard_und J J J<|rG J J J J<|rT J J J<|rN<|ATodo.stop<|ImpX.lq [3,1] ⟨true,h,J⟩ J J
  · rintro σ' ⟨c17, h, rfl⟩
    unfold L_AlarmsTimed_j1 at h
    refine ATodo.cond J (fun hc=>?_) (fun hc=>?_)
    · refine have h := iteT hc h; tSR<|rA J J<|rN<|ATodo.ret<|?_
      obtain rfl := Option.some.inj h
      exact ImpX.here ⟨_,.cons (.tmp _ _ J) .nil,J⟩
    · refine have h := iteFb hc h; tK<|tSR<|rM J J<|rM J J<|bndE h fun v21 e15 h=>r_callpB J (alarm_NextChange_c e15) (.cons (CoB.arrT .p0) (.cons (.co (.refl _)) .nil)) J J<|rM J J<|rX J J J<|rX J J J<|rX J J J<|rA J J<|rA J J<|rA J J<|rN<|tSR<|rM J J<|rM J J<|r_callp J (Q_MomentFault_c J) (CoL.refl _) J<|n_buildSliceL (xs := ([v10,(Q_MomentFault v6.1)] : List Int).map I) J J J J J J<|bndE h fun v22 e16 h=>r_callp J (cmp_Or_Errno_c e16) (CoL.refl _) J<|rA J J<|rN<|tSR<|rA J J<|rA J J<|rN<|tS<|tSR<|rM J J<|ARun.qv (q_eql J J) J<|rN<|ATodo.cut (fun σ'=>∃ (n23 : Int) (c24 : Bool),L_AlarmsTimed_j2 v3 v5 v7 v8 v10 v13 v21 v22 n23 c24 = some r ∧ σ' = ⟨138,[(4,.sl 6 b4 0 v3.1.length),(5,.ptr b9 0),(7,.str v7.1),(8,.str v8.1),(9,I v10),(10,I v13),(12,I v21.2.2),(14,I v21.1),(15,.bool v21.2.1),(16,I v22),(17,I n23),(18,.bool c24)],[(b4,aE2 v3.1),(b9,.cells [I v5.1.Many,I v5.1.Window,I v5.1.Calm])]⟩) ?_ ?_
      · refine ATodo.cond_d J (fun hc=>?_) (fun hc=>?_)
        · exact have h := iteT hc h; tR<|rM J J<|rM J J<|bndE h fun v25 e17 h=>r_callpB J (Q_NextAlarms_c e17) (.cons (CoB.arrT .p0) (.cons (.co (.refl _)) .nil)) J J<|rM J J<|rX J J J<|rX J J J<|rA J J<|rA J J<|rN<|ATodo.stop<|ImpX.lq [0,0] ⟨v25.1,v25.2,h,J⟩ J J
        · exact have h := iteF hc h; tK<|ATodo.stop<|ImpX.lq [0,0] ⟨(0 : Int),false,h,J⟩ J J
      · rintro σ' ⟨n23, c24, h, rfl⟩
        unfold L_AlarmsTimed_j2 at h
        refine tS<|tS<|ATodo.cut (fun σ'=>∃ (c26 : Bool),L_AlarmsTimed_j3 v3 v5 v7 v8 v10 v13 c26 = some r ∧ σ' = ⟨138,[(4,.sl 6 b4 0 v3.1.length),(5,.ptr b9 0),(7,.str v7.1),(8,.str v8.1),(9,I v10),(10,I v13),(104,.bool c26)],[(b4,aE2 v3.1),(b9,.cells [I v5.1.Many,I v5.1.Window,I v5.1.Calm])]⟩) ?_ ?_
        · refine tR<|rM J J<|rM J J<|ARun.qv (q_neq J J) J<|rM J J<|ARun.guard_df J J J (fun hc=>?_) (fun hc=>?_)
          · rw [orFd hc] at h
            refine rM J J<|rY J J J<|rM J J<|rY J J J<|ARun.qv (q_neq J J) J<|rE J J J<|rM J J<|ARun.guard_df J J J (fun hc=>?_) (fun hc=>?_)
            · rw [orFd hc] at h
              exact rM J J<|rY J J J<|rM J J<|rY J J J<|ARun.qv (q_bne J J) J<|rE J J J<|rN<|ATodo.stop<|ImpX.lq [0,0] ⟨v21.2.1 != c24,h,J⟩ J J
            · rw [orTd hc] at h
              exact rG J J J J<|rG J J J J<|rT J J J<|rN<|ATodo.stop<|ImpX.lq [0,0] ⟨true,h,J⟩ J J
          · rw [orTd hc] at h
            exact rG J J J J<|rG J J J J<|rT J J J<|rM J J<|rG J J J J<|rG J J J J<|rG J J J J<|rT J J J<|rN<|ATodo.stop<|ImpX.lq [0,0] ⟨true,h,J⟩ J J
        · rintro σ' ⟨c26, h, rfl⟩
          unfold L_AlarmsTimed_j3 at h
          refine ATodo.cond J (fun hc=>?_) (fun hc=>?_)
          · refine have h := iteT hc h; tSR<|rA J J<|rN<|ATodo.ret<|?_
            obtain rfl := Option.some.inj h
            exact ImpX.here ⟨_,.cons (.tmp _ _ J) .nil,J⟩
          · refine have h := iteFb hc h; tK<|tSR<|ARun.qv (q_load_ptr_all J J .p1 J) J<|rM J J<|rM J J<|rM J J<|bndE h fun v27 e18 h=>t_callL1 J (alarm_Flapping_c e18) .nil (.cons (.co (.refl _)) (.cons (CoB.arrT .p0) (.cons (.co (.refl _)) (.cons (.co (.refl _)) .nil)))) (fun _=>J) (fun _=>J) (fun _=>(.cons (NoS.arrT (fun _=>J)) .nil)) J fun b28=>rM J J<|rX J J J<|rX J J J<|rA J J<|rA J J<|rN<|tSR<|ARun.qv (q_load_ptr_all J J .p2 J) J<|r_callp J (Q_FlapFault_c J) (CoL.refl _) J<|rM J J<|rM J J<|n_buildSliceL (xs := ([(Q_FlapFault v5.1),v10,v13] : List Int).map I) J J J J J J<|bndE h fun v29 e19 h=>r_callp J (cmp_Or_Errno_c e19) (CoL.refl _) J<|rA J J<|rN<|tS<|ATodo.cut (fun σ'=>∃ (c30 : Bool),L_AlarmsTimed_j4 c30 = some r ∧ σ' = ⟨138,[(2,.bool c30)],[]⟩) ?_ ?_
            · refine tR<|rM J J<|rM J J<|ARun.qv (q_eql J J) J<|rM J J<|ARun.guard_dt J J J (fun hc=>?_) (fun hc=>?_)
              · refine have h := iteT hc h; rM J J<|rY J J J<|ARun.qv (q_neq J J) J<|rY J J J<|rM J J<|ARun.guard_df J J J (fun hc=>?_) (fun hc=>?_)
                · refine have h := iteF hc h; rM J J<|rY J J J<|ARun.qv (q_load_ptr_all J J .p2 J) J<|rY J J J<|rM J J<|rY J J J<|rM J J<|rY J J J<|rM J J<|rY J J J<|bndE h fun v31 e20 h=>t_callL1 J (Q_FlapTimes_c e20) .nil (.cons (.co (.refl _)) (.cons (CoB.arrT .p1) (.cons (.co (.refl _)) (.cons (.co (.refl _)) .nil)))) (fun _=>J) (fun _=>J) (fun _=>(.cons (NoS.arrT (fun _=>J)) .nil)) J fun b32=>rY J J J<|bndE h fun v33 e21 h=>r_callpB J (slices_Equal_Window_Window_c e21) (.cons (CoB.arrT .p1) (.cons (CoB.arrT .p0) .nil)) J J<|rY J J J<|rE J J J<|rT J J J<|rM J J<|ARun.guard J J J (fun hc=>?_) (fun hc=>?_)
                  · exact have h := iteT hc h; bndE h fun v34 e22 h=>r_callp J (L_alarmed_c e22) (CoL.refl _) J<|rT J J J<|rA J J<|rN<|ATodo.stop<|ImpX.lq [] ⟨v34,h,J⟩ J J
                  · exact have h := iteFb hc h; rE J J J<|rA J J<|rN<|ATodo.stop<|ImpX.lq [] ⟨false,h,J⟩ J J
                · exact have h := iteT hc h; rG J J J J<|rG J J J J<|rG J J J J<|rG J J J J<|rG J J J J<|rG J J J J<|rY J J J<|rT J J J<|rT J J J<|rM J J<|rY J J J<|bndE h fun v35 e23 h=>r_callp J (L_alarmed_c e23) (CoL.refl _) J<|rT J J J<|rA J J<|rN<|ATodo.stop<|ImpX.lq [] ⟨v35,h,J⟩ J J
              · exact have h := iteF hc h; rG J J J J<|rG J J J J<|ARun.guard_und J J J<|ARun.guard_und J J J<|ARun.guard_und J J J<|ARun.guard_und J J J<|ARun.guard_und J J J<|ARun.guard_und J J J<|ARun.guard_und J J J<|rG J J J J<|rE J J J<|rM J J<|rG J J J J<|rE J J J<|rA J J<|rN<|ATodo.stop<|ImpX.lq [] ⟨false,h,J⟩ J J
            · rintro σ' ⟨c30, h, rfl⟩
              unfold L_AlarmsTimed_j4 at h
              refine ATodo.ret<|?_
              obtain rfl := Option.some.inj h
              exact ImpX.here ⟨_,.cons (.tmp _ _ J) .nil,J⟩

end Go.Proofs.YtifmjkaghhkhfaaGreatDoor

