/- The code computes the plain functions: proofs written by shal.py. -/
import Derived.Test.YtjelgjkccklfaaaGreatDoorWayW1
set_option maxRecDepth 100000
set_option linter.unusedVariables false
set_option linter.unusedSimpArgs false
namespace Go.Proofs.YtjelgjkccklfaaaGreatDoor
open Go Go.Eng Go.Proofs Go.Beacon
attribute [local irreducible] ARun ATodo AQ QV ACall ImpX AWp AM
set_option maxHeartbeats 4000000 in
theorem slices_DeleteFunc_Image_Image_c [GI : GTab] {b_0 : Bk} {p0x0 : List Image} {fnb : Image → Option Bool} {fnb_F : FuncId} [IsFn Tryz.prog fnb_F] {fnb_C : List AV} (fnb_h : ∀ {y0 : _} {u : Bool}, fnb y0 = some u → Pu Tryz.prog fnb_F (.agg [I y0.Version.Major, I y0.Version.Minor, I y0.Version.Patch, .list 1 (y0.Models.map AV.str), .list 6 (y0.From.map Range.av), I y0.Size] ::  fnb_C) (.bool u)) {r : (List Image)} (h : slices_DeleteFunc_Image_Image p0x0 fnb = some r) : ACall Tryz.prog 167 [.sl 6 b_0 0 p0x0.length, .func (.func fnb_F) fnb_C] [(b_0, .arr 6 (p0x0.map Image.av))] (T1 (fun d_0 => [(d_0, .arr 6 (r.map Image.av))]) (fun d_0 => .sl 6 d_0 0 r.length)) := by
  unfold slices_DeleteFunc_Image_Image at h
  refine ACall.lessH ?_
  refine ACall.bodyN Tryz.func167 rfl Tryz.ntmps167 Tryz.results167 rfl rfl ?_
  refine tSR <| rA rfl rfl <| rN <| tSR <| rM rfl rfl <| rM rfl rfl <| bndE h fun v1 e1 h => r_callpB rfl (slices_IndexFunc_Image_Image_c fnb_h e1) (.cons (CoB.arrT .p0) (.cons (.co (.refl _)) .nil)) rfl rfl <| rA rfl rfl <| rN <| tS <| tSR <| rM rfl rfl <| ARun.qv (q_eql rfl rfl) rfl <| rN <| ATodo.cond_d rfl (fun hc => ?_) (fun hc => ?_)
  · refine have h := iteT hc h; tSR <| rM rfl rfl <| rA rfl rfl <| rN <| ATodo.ret <| ?_
    obtain rfl := Option.some.inj h
    exact ImpX.here ⟨_, .cons (.tmp _ _ rfl) .nil, _, .cons .p0 .nil, ⟨b_0, rfl, rfl⟩⟩
  · refine have h := iteF hc h; tK <| tS <| tSR <| rM rfl rfl <| ARun.qv (q_addw rfl rfl) rfl <| rA rfl rfl <| rN <| ATodo.block <| ATodo.loopI (fun x : (List Image) × Int × Int => slices_DeleteFunc_Image_Image_b1 fnb x.1 x.2.1 x.2.2) (fun x σ' => σ' = ⟨42, [(0, .sl 6 b_0 0 x.1.length), (1, .func (.func fnb_F) fnb_C), (5, I x.2.1), (6, I x.2.2)], [(b_0, .arr 6 (x.1.map Image.av))]⟩) h ?_ ?_
    · exact ImpX.lq [0] rfl rfl rfl
    · intro x z1 σ' J1 hmk h hJ1 hA1
      obtain ⟨l5, n6, n7⟩ := x
      obtain rfl := hmk
      replace h : slices_DeleteFunc_Image_Image_b1 fnb l5 n6 n7 = some z1 := h
      unfold slices_DeleteFunc_Image_Image_b1 at h
      refine tS <| tSR <| rM rfl rfl <| rM rfl rfl <| ARun.qv (t_len_sl rfl) rfl <| ARun.qv (q_lss rfl rfl) rfl <| rN <| ATodo.cond_d rfl (fun hc => ?_) (fun hc => ?_)
      · refine have h := iteT hc h; tK <| tS <| ATodo.block <| tSR <| rM rfl rfl <| rM rfl rfl <| bndE h fun v8 e2 h => ARun.qv (t_index_sl rfl rfl rfl e2) rfl <| ARun.qv (t_load_aptr_agg (g := Image.av) rfl rfl (.inl .p0) rfl e2 rfl) rfl <| n_alloc rfl rfl rfl rfl fun b9 => n_store_ptr rfl rfl rfl rfl .p0 rfl rfl <| rN <| tSR <| rM rfl rfl <| ARun.qv (q_load_ptr_all rfl rfl .p0 rfl) rfl <| bndE h fun v10 e3 h => r_callvp rfl rfl (fnb_h e3) (CoL.refl _) rfl <| ARun.qv (q_not rfl) rfl <| rN <| ATodo.cut (fun σ' => ∃ (l11 : List Image) (n12 : Int), slices_DeleteFunc_Image_Image_j1 n7 l11 n12 = some z1 ∧ σ' = ⟨42, [(0, .sl 6 b_0 0 l11.length), (1, .func (.func fnb_F) fnb_C), (5, I n12), (6, I n7)], [(b_0, .arr 6 (l11.map Image.av))]⟩) ?_ ?_
        · refine ATodo.cond rfl (fun hc => ?_) (fun hc => ?_)
          · exact have h := iteT hc h; tSR <| rM rfl rfl <| rM rfl rfl <| ARun.qv (q_load_ptr_all rfl rfl .p0 rfl) rfl <| bndE h fun v13 e4 h => ARun.qv (t_index_sl rfl rfl rfl e4) rfl <| t_store_aptr1 (g := Image.av) (el' := v8) rfl rfl rfl rfl e4 rfl .p1 rfl <| ARun.ghost <| ImpX.eqs (s := 0) (av' := .sl 6 b_0 0 (l5.set n6.toNat v8).length) rfl (by rw [List.length_set]) <| ImpX.here <| ARun.ghost <| ImpX.eqs (s := 17) (av' := .sl 6 b_0 0 (l5.set n6.toNat v8).length) rfl (by rw [List.length_set]) <| ImpX.here <| ARun.ghost <| ImpX.eqs (s := 22) (av' := .sl 6 b_0 0 (l5.set n6.toNat v8).length) rfl (by rw [List.length_set]) <| ImpX.here <| ARun.ghost <| ImpX.eqs (s := 30) (av' := .sl 6 b_0 0 (l5.set n6.toNat v8).length) rfl (by rw [List.length_set]) <| ImpX.here <| rN <| tR <| rM rfl rfl <| ARun.qv (q_addw rfl rfl) rfl <| rA rfl rfl <| rN <| ATodo.stop <| ImpX.lq [1] ⟨l5.set n6.toNat v8, w64 (n6 + (1 : Int)), h, rfl⟩ rfl rfl
          · exact have h := iteFb hc h; tK <| ATodo.stop <| ImpX.lq [1] ⟨l5, n6, h, rfl⟩ rfl rfl
        · rintro σ' ⟨l11, n12, h, rfl⟩
          unfold slices_DeleteFunc_Image_Image_j1 at h
          refine ATodo.blk <| tR <| rM rfl rfl <| ARun.qv (q_addw rfl rfl) rfl <| rA rfl rfl <| rN <| ATodo.stop <| ?_
          obtain rfl := Option.some.inj h
          exact hJ1 _ _ rfl <| ImpX.lq [0] rfl rfl rfl
      · refine have h := iteF hc h; ATodo.exit rfl <| have h := outL h hA1; ?_
        unfold slices_DeleteFunc_Image_Image_k2 at h
        refine tSR <| rM rfl rfl <| rM rfl rfl <| bndE h fun l14 e5 h => ARun.qv (t_slice_sl rfl rfl (.some _ _ _ rfl) .none rfl rfl e5) rfl <| t_clearN (g := Image.av) (Z := (⟨(⟨(0 : Int), (0 : Int), (0 : Int)⟩ : Version), [], [], (0 : Int)⟩ : Image)) (L := n6) rfl rfl rfl rfl rfl rfl e5 .p0 <| ARun.ghost <| ImpX.eqs (s := 0) (av' := .sl 6 b_0 0 (clr l5 n6 l14.length (⟨(⟨(0 : Int), (0 : Int), (0 : Int)⟩ : Version), [], [], (0 : Int)⟩ : Image)).length) rfl (congrArg (AV.sl 6 b_0 0) (clr_len e5)) <| ImpX.here <| ARun.ghost <| ImpX.eqs (s := 17) (av' := .sl 6 b_0 0 (clr l5 n6 l14.length (⟨(⟨(0 : Int), (0 : Int), (0 : Int)⟩ : Version), [], [], (0 : Int)⟩ : Image)).length) rfl (congrArg (AV.sl 6 b_0 0) (clr_len e5)) <| ImpX.here <| ARun.ghost <| ImpX.eqs (s := 36) (av' := .sl 6 b_0 0 (clr l5 n6 l14.length (⟨(⟨(0 : Int), (0 : Int), (0 : Int)⟩ : Version), [], [], (0 : Int)⟩ : Image)).length) rfl (congrArg (AV.sl 6 b_0 0) (clr_len e5)) <| ImpX.here <| rN <| tSR <| rM rfl rfl <| rM rfl rfl <| bndE h fun l15 e6 h => ARun.qv (t_slice_sl rfl rfl .none (.some _ _ _ rfl) rfl rfl e6) rfl <| rA rfl rfl <| ARun.ghost <| ImpX.takeT e6 .p0 <| ImpX.here <| rN <| ATodo.ret <| ?_
        obtain rfl := Option.some.inj h
        exact ImpX.here ⟨_, .cons (.tmp _ _ rfl) .nil, _, .cons .p0 .nil, ⟨b_0, rfl, rfl⟩⟩

set_option maxHeartbeats 4000000 in
theorem Q_nextImages_c [GI : GTab] {p0x0 : List Image} {p1x0 : Str} {p2x0 : Version} {r : (List Image)} (h : Q_nextImages p0x0 p1x0 p2x0 = some r) : ACall Tryz.prog 114 [.list 6 (p0x0.map Image.av), .str p1x0, .agg [I p2x0.Major, I p2x0.Minor, I p2x0.Patch]] [] (T1 (fun d_0 => [(d_0, .arr 6 (r.map Image.av))]) (fun d_0 => .sl 6 d_0 0 r.length)) := by
  unfold Q_nextImages at h
  refine ACall.lessH ?_
  refine ACall.bodyN Tryz.func114 rfl Tryz.ntmps114 Tryz.results114 rfl rfl ?_
  refine tSR <| n_box rfl rfl rfl rfl fun b1 => n_box rfl rfl rfl rfl fun b2 => rA rfl rfl <| rN <| tSR <| rM rfl rfl <| bndE h fun v3 e1 h => t_call1 rfl (slices_Clone_Image_Image_c e1) (CoL.refl _) .nil (fun _ => rfl) rfl fun b4 => ARun.qv (q_makeFunc rfl) rfl <| bndE h fun v5 e2 h => ARun.ghost <| ImpX.frzCap (s := 9) (j := 0) rfl rfl rfl .p2 <| ImpX.here <| ARun.ghost <| ImpX.frzCap (s := 9) (j := 1) rfl rfl rfl .p1 <| ImpX.here <| t_call1 rfl (slices_DeleteFunc_Image_Image_c (fun e => Q_nextImages_1x_c e) e2) (CoL.refl _) (.cons .p0 .nil) (fun _ => rfl) rfl fun b6 => rA rfl rfl <| rN <| ATodo.ret <| ?_
  obtain rfl := Option.some.inj h
  exact ImpX.here ⟨_, .cons (.tmp _ _ rfl) .nil, _, .cons .p0 .nil, ⟨b6, rfl, rfl⟩⟩

set_option maxHeartbeats 4000000 in
theorem Q_NextOf_c [GI : GTab] {p0x0 : List Image} {p1x0 : Str} {p2x0 : Version} {r : (List Version)} (h : Q_NextOf p0x0 p1x0 p2x0 = some r) : ACall Tryz.prog 51 [.list 6 (p0x0.map Image.av), .str p1x0, .agg [I p2x0.Major, I p2x0.Minor, I p2x0.Patch]] [] (T1 (fun d_0 => [(d_0, .arr 3 (r.map Version.av))]) (fun d_0 => .sl 3 d_0 0 r.length)) := by
  unfold Q_NextOf at h
  refine ACall.lessH ?_
  refine ACall.bodyN Tryz.func51 rfl Tryz.ntmps51 Tryz.results51 rfl rfl ?_
  refine tSR <| n_box rfl rfl rfl rfl fun b1 => rA rfl rfl <| rN <| tSR <| rA rfl rfl <| rN <| tS <| tSR <| rM rfl rfl <| rM rfl rfl <| ARun.qv (q_load_ptr_all rfl rfl .p0 rfl) rfl <| bndE h fun v2 e1 h => t_call1 rfl (Q_nextImages_c e1) (CoL.refl _) .nil (fun _ => rfl) rfl fun b3 => ARun.qv (t_len_sl rfl) rfl <| rM rfl rfl <| rN <| ATodo.block <| ATodo.loopI (fun x : (List Version) × Int => Q_NextOf_b1 v2 x.1 x.2) (fun x σ' => ∃ (b7 : Bk), σ' = ⟨26, [(7, .sl 3 b7 0 x.1.length), (13, .sl 6 b3 0 v2.length), (14, I (v2.length : Int)), (15, I x.2)], [(b7, .arr 3 (x.1.map Version.av)), (b3, .arr 6 (v2.map Image.av))]⟩) h ?_ ?_
  · exact ImpX.arr (s := 7) 3 rfl fun b10 => ImpX.lq [0, 0] ⟨b10, rfl⟩ rfl rfl
  · intro x z1 σ' J1 hmk h hJ1 hA1
    obtain ⟨l8, n9⟩ := x
    obtain ⟨b7, rfl⟩ := hmk
    replace h : Q_NextOf_b1 v2 l8 n9 = some z1 := h
    unfold Q_NextOf_b1 at h
    refine tSR <| ARun.qv (q_lss rfl rfl) rfl <| rN <| tS <| ATodo.cond_d rfl (fun hc => ?_) (fun hc => ?_)
    · refine have h := iteT hc h; tK <| tS <| ATodo.block <| tSR <| bndE h fun v11 e2 h => ARun.qv (t_index_sl rfl rfl rfl e2) rfl <| ARun.qv (t_load_aptr_agg (g := Image.av) rfl rfl (.inl .p1) rfl e2 rfl) rfl <| n_alloc rfl rfl rfl rfl fun b12 => n_store_ptr rfl rfl rfl rfl .p0 rfl rfl <| rN <| tR <| rM rfl rfl <| rF rfl rfl rfl <| ARun.qv (n_load_ptr_part rfl rfl .p0 rfl rfl) rfl <| n_buildSliceL (xs := ([v11.Version] : List Version).map Version.av) rfl rfl rfl rfl rfl rfl <| bndE h fun l13 e3 h => t_append (g := Version.av) rfl rfl rfl rfl rfl rfl rfl rfl (.list _) e3 (fun _ => .p1) rfl fun b14 => rA rfl rfl <| rN <| ATodo.blk <| tR <| ARun.qv (q_addw rfl rfl) rfl <| rM rfl rfl <| rN <| ATodo.stop <| ?_
      obtain rfl := Option.some.inj h
      exact hJ1 _ _ rfl <| ImpX.lq [1, 1] ⟨b14, rfl⟩ rfl rfl
    · refine have h := iteF hc h; ATodo.exit rfl <| have h := outL h hA1; tSR <| rM rfl rfl <| rA rfl rfl <| rN <| ATodo.ret <| ?_
      obtain rfl := Option.some.inj h
      exact ImpX.here ⟨_, .cons (.tmp _ _ rfl) .nil, _, .cons .p0 .nil, ⟨b7, rfl, rfl⟩⟩

set_option maxHeartbeats 4000000 in
theorem slices_Clone_Version_Version_c [GI : GTab] {p0x0 : List Version} {r : (List Version)} (h : slices_Clone_Version_Version p0x0 = some r) : ACall Tryz.prog 115 [.list 3 (p0x0.map Version.av)] [] (T1 (fun d_0 => [(d_0, .arr 3 (r.map Version.av))]) (fun d_0 => .sl 3 d_0 0 r.length)) := by
  unfold slices_Clone_Version_Version at h
  refine ACall.lessH ?_
  refine ACall.bodyN Tryz.func115 rfl Tryz.ntmps115 Tryz.results115 rfl rfl ?_
  refine ATodo.seq ?_
  refine ATodo.region ?_
  refine ARun.qv (q_assign rfl) rfl ?_
  refine ARun.nil ?_
  refine ATodo.seq ?_
  refine ATodo.seq ?_
  refine ATodo.region ?_
  refine ARun.qv (q_move rfl) rfl ?_
  refine r_eqnil rfl rfl rfl rfl (fun c hc => ?_)
  refine ARun.nil ?_
  refine ATodo.cond rfl (fun hT => ?_) (fun hF => ?_)
  · obtain rfl := app_nil_some h (List.map_eq_nil_iff.1 (hc hT))
    refine ATodo.seq ?_
    refine ATodo.region ?_
    refine ARun.qv (q_assign rfl) rfl ?_
    refine ARun.nil ?_
    refine ATodo.ret ?_
    refine ImpX.arr (s := 2) 3 rfl (fun b1 => ?_)
    exact ImpX.here ⟨_, .cons (.tmp _ _ rfl) .nil, _, .cons .here .nil, ⟨b1, rfl, rfl⟩⟩
  · refine ATodo.skip ?_
    refine ATodo.seq ?_
    refine ATodo.region ?_
    refine n_buildSlice (xs := ([] : List Version).map Version.av) rfl rfl rfl rfl rfl rfl (fun b2 => ?_)
    refine ARun.qv (q_move rfl) rfl ?_
    refine t_append (g := Version.av) (Xs := []) rfl rfl rfl rfl rfl rfl rfl rfl (.list _) h (fun _ => .here) rfl (fun b3 => ?_)
    refine ARun.qv (q_assign rfl) rfl ?_
    refine ARun.nil ?_
    refine ATodo.ret ?_
    exact ImpX.here ⟨_, .cons (.tmp _ _ rfl) .nil, _, .cons .here .nil, ⟨b3, rfl, rfl⟩⟩

set_option maxHeartbeats 4000000 in
theorem slices_CompareFunc_Version_LVersion_Version_Version_c [GI : GTab] {p0x0 : List Version} {p1x0 : List Version} {fnc : Version → Version → Option Int} {fnc_F : FuncId} [IsFn Tryz.prog fnc_F] {fnc_C : List AV} (fnc_h : ∀ {y0 y1 : _} {u : Int}, fnc y0 y1 = some u → Pu Tryz.prog fnc_F (.agg [I y0.Major, I y0.Minor, I y0.Patch] :: .agg [I y1.Major, I y1.Minor, I y1.Patch] ::  fnc_C) (I u)) {r : Int} (h : slices_CompareFunc_Version_LVersion_Version_Version p0x0 p1x0 fnc = some r) : Pu Tryz.prog 116 [.list 3 (p0x0.map Version.av), .list 3 (p1x0.map Version.av), .func (.func fnc_F) fnc_C] (I r) := by
  unfold slices_CompareFunc_Version_LVersion_Version_Version at h
  refine ACall.bodyN Tryz.func116 rfl Tryz.ntmps116 Tryz.results116 rfl rfl ?_
  refine tSR <| rA rfl rfl <| rN <| tS <| tSR <| rM rfl rfl <| ARun.qv (t_len rfl) rfl <| rM rfl rfl <| rN <| ATodo.block <| ATodo.loopI (fun x : Int => slices_CompareFunc_Version_LVersion_Version_Version_b1 p0x0 p1x0 fnc x) (fun x σ' => σ' = ⟨39, [(0, .list 3 (p0x0.map Version.av)), (1, .list 3 (p1x0.map Version.av)), (2, .func (.func fnc_F) fnc_C), (11, .list 3 (p0x0.map Version.av)), (12, I (p0x0.length : Int)), (13, I x)], []⟩) h ?_ ?_
  · exact ImpX.lq [] rfl rfl rfl
  · intro n2 z1 σ' J1 hmk h hJ1 hA1
    obtain rfl := hmk
    replace h : slices_CompareFunc_Version_LVersion_Version_Version_b1 p0x0 p1x0 fnc n2 = some z1 := h
    unfold slices_CompareFunc_Version_LVersion_Version_Version_b1 at h
    refine tSR <| ARun.qv (q_lss rfl rfl) rfl <| rN <| tS <| ATodo.cond_d rfl (fun hc => ?_) (fun hc => ?_)
    · refine have h := iteT hc h; tK <| tS <| ATodo.block <| tSR <| rM rfl rfl <| bndE h fun v3 e1 h => ARun.qv (t_index rfl rfl rfl e1 rfl rfl) rfl <| ARun.qv (q_load_rptr_agg rfl rfl rfl) rfl <| n_alloc rfl rfl rfl rfl fun b4 => rA rfl rfl <| n_store_ptr rfl rfl rfl rfl .p0 rfl rfl <| rN <| tS <| tSR <| rM rfl rfl <| rM rfl rfl <| ARun.qv (t_len rfl) rfl <| ARun.qv (q_geq rfl rfl) rfl <| rN <| ATodo.cond_d rfl (fun hc => ?_) (fun hc => ?_)
      · refine have h := iteT hc h; tSR <| rA rfl rfl <| rN <| ATodo.ret <| have h := outL h hA1; ?_
        obtain rfl := Option.some.inj h
        exact ImpX.here ⟨_, .cons (.tmp _ _ rfl) .nil, rfl⟩
      · refine have h := iteF hc h; tK <| tSR <| rM rfl rfl <| rM rfl rfl <| bndE h fun v5 e2 h => ARun.qv (t_index rfl rfl rfl e2 rfl rfl) rfl <| ARun.qv (q_load_rptr_agg rfl rfl rfl) rfl <| n_alloc rfl rfl rfl rfl fun b6 => n_store_ptr rfl rfl rfl rfl .p0 rfl rfl <| rN <| tSR <| rM rfl rfl <| ARun.qv (q_load_ptr_all rfl rfl .p1 rfl) rfl <| ARun.qv (q_load_ptr_all rfl rfl .p0 rfl) rfl <| bndE h fun v7 e3 h => r_callvp rfl rfl (fnc_h e3) (CoL.refl _) rfl <| rA rfl rfl <| rN <| tSR <| rM rfl rfl <| ARun.qv (q_neq rfl rfl) rfl <| rN <| ATodo.cond_d rfl (fun hc => ?_) (fun hc => ?_)
        · refine have h := iteT hc h; tSR <| rM rfl rfl <| rA rfl rfl <| rN <| ATodo.ret <| have h := outL h hA1; ?_
          obtain rfl := Option.some.inj h
          exact ImpX.here ⟨_, .cons (.tmp _ _ rfl) .nil, rfl⟩
        · refine have h := iteF hc h; tK <| ATodo.blk <| tR <| ARun.qv (q_addw rfl rfl) rfl <| rM rfl rfl <| rN <| ATodo.stop <| ?_
          obtain rfl := Option.some.inj h
          exact hJ1 _ _ rfl <| ImpX.lq [] rfl rfl rfl
    · refine have h := iteF hc h; ATodo.exit rfl <| have h := outL h hA1; ?_
      unfold slices_CompareFunc_Version_LVersion_Version_Version_k1 at h
      refine tS <| tSR <| rM rfl rfl <| ARun.qv (t_len rfl) rfl <| rM rfl rfl <| ARun.qv (t_len rfl) rfl <| ARun.qv (q_lss rfl rfl) rfl <| rN <| ATodo.cond_d rfl (fun hc => ?_) (fun hc => ?_)
      · refine have h := iteT hc h; tSR <| rA rfl rfl <| rN <| ATodo.ret <| ?_
        obtain rfl := Option.some.inj h
        exact ImpX.here ⟨_, .cons (.tmp _ _ rfl) .nil, rfl⟩
      · refine have h := iteF hc h; tK <| tSR <| rA rfl rfl <| rN <| ATodo.ret <| ?_
        obtain rfl := Option.some.inj h
        exact ImpX.here ⟨_, .cons (.tmp _ _ rfl) .nil, rfl⟩

set_option maxHeartbeats 4000000 in
theorem Q_WayOf_c [GI : GTab] {p0x0 : List Image} {p1x0 : Str} {p2x0 : Version} {p3x0 : Version} {r : (List Version) × Bool} (h : Q_WayOf p0x0 p1x0 p2x0 p3x0 = some r) : Pu Tryz.prog 52 [.list 6 (p0x0.map Image.av), .str p1x0, .agg [I p2x0.Major, I p2x0.Minor, I p2x0.Patch], .agg [I p3x0.Major, I p3x0.Minor, I p3x0.Patch]] (.tup [.list 3 (r.1.map Version.av), .bool r.2]) := by
  unfold Q_WayOf at h
  refine ACall.bodyN Tryz.func52 rfl Tryz.ntmps52 Tryz.results52 rfl rfl ?_
  refine tSR <| n_box rfl rfl rfl rfl fun b1 => n_box rfl rfl rfl rfl fun b2 => rA rfl rfl <| rA rfl rfl <| rN <| tSR <| t_makeMap rfl fun b3 => ARun.qv (q_load_ptr_all rfl rfl .p2 rfl) rfl <| ARun.qv (n_build rfl rfl rfl rfl rfl) rfl <| ARun.ghost <| ImpX.cox (s := 23) (av' := .agg [.list 3 (([] : List Version).map Version.av), I (0 : Int)]) rfl (CoX.aggL (.cons .n (.cons .r .nil))) <| ImpX.here <| t_insert (gk := Version.av) (gv := Fleetref2_trip.av) (M := ([] : List (Version × Fleetref2_trip))) (key := p2x0) (v := (⟨[], (0 : Int)⟩ : Fleetref2_trip)) rfl rfl rfl rfl .p0 <| rM rfl rfl <| rA rfl rfl <| rN <| tS <| tSR <| rM rfl rfl <| ARun.qv (t_len rfl) rfl <| ARun.qv (q_addw rfl rfl) rfl <| rM rfl rfl <| rN <| ATodo.block <| ATodo.loopI (fun x : (List (Version × Fleetref2_trip)) × Int => Q_WayOf_b1 p0x0 p1x0 p3x0 x.1 x.2) (fun x σ' => ∃ (b7 : Bk), σ' = ⟨107, [(0, .list 6 (p0x0.map Image.av)), (1, .str p1x0), (7, .ptr b2 0), (10, .mref b7), (27, I (w64 ((p0x0.length : Int) + (1 : Int)))), (28, I x.2)], [(b2, .cells [I p3x0.Major, I p3x0.Minor, I p3x0.Patch]), (b7, .mp (x.1.map (fun e => (Version.av e.1, Fleetref2_trip.av e.2))))]⟩) h ?_ ?_
  · exact ImpX.lq [1, 0] ⟨b3, rfl⟩ rfl rfl
  · intro x z1 σ' J1 hmk h hJ1 hA1
    obtain ⟨l8, n9⟩ := x
    obtain ⟨b7, rfl⟩ := hmk
    replace h : Q_WayOf_b1 p0x0 p1x0 p3x0 l8 n9 = some z1 := h
    unfold Q_WayOf_b1 at h
    refine tSR <| ARun.qv (q_lss rfl rfl) rfl <| rN <| tS <| ATodo.cond_d rfl (fun hc => ?_) (fun hc => ?_)
    · refine have h := iteT hc h; tK <| tS <| ATodo.block <| tS <| tSR <| rM rfl rfl <| ARun.qv (q_load_ptr_all rfl rfl .p0 rfl) rfl <| bndE h fun v10 e1 h => ARun.qv (t_lookup2N (gk := Version.av) (gv := Fleetref2_trip.av) (M := l8) (key := p3x0) (Z := (⟨[], (0 : Int)⟩ : Fleetref2_trip)) rfl rfl .p1 rfl rfl e1 rfl) rfl <| rM rfl rfl <| rX rfl rfl rfl <| rX rfl rfl rfl <| n_alloc rfl rfl rfl rfl fun b11 => n_store_ptr rfl rfl rfl rfl .p0 rfl rfl <| rA rfl rfl <| rN <| tSR <| rM rfl rfl <| rN <| ATodo.cond rfl (fun hc => ?_) (fun hc => ?_)
      · refine have h := iteT hc h; tSR <| rF rfl rfl rfl <| rL rfl rfl .p0 rfl rfl <| rA rfl rfl <| rA rfl rfl <| rN <| ATodo.ret <| have h := outL h hA1; ?_
        obtain rfl := Option.some.inj h
        exact ImpX.here ⟨_, .cons (.tmp _ _ rfl) (.cons (.tmp _ _ rfl) .nil), rfl⟩
      · refine have h := iteFb hc h; tK <| tSR <| t_makeMap rfl fun b12 => rA rfl rfl <| rN <| tS <| tSR <| rM rfl rfl <| t_range (M := l8) (enc := (fun e => (Version.av e.1, Fleetref2_trip.av e.2))) rfl (fun _ _ => .p3) rfl fun b13 Le2 ce2 hLe2 hIe2 => rN <| ATodo.block <| ATodo.loopMap (fun e (x : (List (Version × Fleetref2_trip))) => Q_WayOf_b2 p0x0 p1x0 e x) (fun x : (List (Version × Fleetref2_trip)) => Q_WayOf_f2 n9 x) (fun R x σ' => ∃ (s2m : List Nat), MIter Le2 ce2 s2m (R.map (fun e => (Version.av e.1, Fleetref2_trip.av e.2))) ∧ σ' = ⟨107, [(0, .list 6 (p0x0.map Image.av)), (1, .str p1x0), (7, .ptr b2 0), (13, .mref b12), (27, I (w64 ((p0x0.length : Int) + (1 : Int)))), (28, I n9), (41, .ptr b13 0)], [(b13, .mit b7 ce2 s2m), (b7, .mpb Le2 ce2), (b2, .cells [I p3x0.Major, I p3x0.Minor, I p3x0.Patch]), (b12, .mp (x.map (fun e => (Version.av e.1, Fleetref2_trip.av e.2))))]⟩) h ?_ ?_
        · exact ImpX.lq [0, 3, 2, 0] ⟨[], hIe2, rfl⟩ rfl rfl
        · intro R2 l15 σ' J2 hmk hH2 hK2
          obtain ⟨s2m, hI2m, rfl⟩ := hmk
          refine tSR <| t_next rfl hI2m .p1 (fun _ => .p0) rfl (fun hN => ?_) (fun v2m R' sv2m hP hlen hIv2m hCv2m => ?_)
          · have h := nilL hH2 hN
            replace h : Q_WayOf_f2 n9 l15 = _ := h
            unfold Q_WayOf_f2 at h
            refine ARun.ghost <| ImpX.mpDone hLe2 .p1 <| ImpX.here <| rX rfl rfl rfl <| rN <| tS <| ATodo.cond_f rfl <| ATodo.exit rfl <| tR <| rM rfl rfl <| rA rfl rfl <| rN <| ATodo.blk <| tR <| ARun.qv (q_addw rfl rfl) rfl <| rM rfl rfl <| rN <| ATodo.stop <| ?_
            obtain rfl := Option.some.inj h
            exact hJ1 _ _ rfl <| ImpX.lq [2, 2] ⟨b12, rfl⟩ rfl rfl
          · obtain ⟨z2, h, hN2, hA2⟩ := stepL hH2 hP
            replace h : Q_WayOf_b2 p0x0 p1x0 v2m l15 = some z2 := h
            unfold Q_WayOf_b2 at h
            have hJ2 := fun y σ' (e : z2 = .inl y) hi => hK2 R' y σ' hlen (hN2 y e) hi
            clear hN2 hP hK2 hH2
            refine rX rfl rfl rfl <| rN <| tS <| ATodo.cond_t rfl <| tK <| ATodo.block <| tSR <| ARun.qv (t_entry rfl .p0 .p1 hCv2m rfl rfl) rfl <| rX rfl rfl rfl <| rX rfl rfl rfl <| n_alloc rfl rfl rfl rfl fun b16 => n_alloc rfl rfl rfl rfl fun b17 => n_store_ptr rfl rfl rfl rfl .p1 rfl rfl <| n_store_ptr rfl rfl rfl rfl .p0 rfl rfl <| rN <| tSR <| rM rfl rfl <| rM rfl rfl <| ARun.qv (q_load_ptr_all rfl rfl .p1 rfl) rfl <| bndE h fun v18 e3 h => t_call1 rfl (Q_nextImages_c e3) (CoL.refl _) .nil (fun _ => rfl) rfl fun b19 => ARun.qv (t_len_sl rfl) rfl <| rM rfl rfl <| rN <| ATodo.block <| ATodo.loopI (fun x : (List (Version × Fleetref2_trip)) × Int => Q_WayOf_b3 v2m v18 x.1 x.2) (fun x σ' => σ' = ⟨107, [(0, .list 6 (p0x0.map Image.av)), (1, .str p1x0), (7, .ptr b2 0), (13, .mref b12), (15, .ptr b17 0), (27, I (w64 ((p0x0.length : Int) + (1 : Int)))), (28, I n9), (41, .ptr b13 0), (50, .sl 6 b19 0 v18.length), (51, I (v18.length : Int)), (52, I x.2)], [(b2, .cells [I p3x0.Major, I p3x0.Minor, I p3x0.Patch]), (b12, .mp (x.1.map (fun e => (Version.av e.1, Fleetref2_trip.av e.2)))), (b17, .cells [.list 3 (v2m.2.way_.map Version.av), I v2m.2.size_]), (b13, .mit b7 ce2 sv2m), (b7, .mpb Le2 ce2), (b19, .arr 6 (v18.map Image.av))]⟩) h ?_ ?_
            · exact ImpX.lq [5, 5, 1, 2, 2, 0] rfl rfl rfl
            · intro x z3 σ' J3 hmk h hJ3 hA3
              obtain ⟨l22, n23⟩ := x
              obtain rfl := hmk
              replace h : Q_WayOf_b3 v2m v18 l22 n23 = some z3 := h
              unfold Q_WayOf_b3 at h
              refine tSR <| ARun.qv (q_lss rfl rfl) rfl <| rN <| tS <| ATodo.cond_d rfl (fun hc => ?_) (fun hc => ?_)
              · refine have h := iteT hc h; tK <| tS <| ATodo.block <| tSR <| bndE h fun v24 e4 h => ARun.qv (t_index_sl rfl rfl rfl e4) rfl <| ARun.qv (t_load_aptr_agg (g := Image.av) rfl rfl (.inl .p5) rfl e4 rfl) rfl <| n_alloc rfl rfl rfl rfl fun b25 => n_store_ptr rfl rfl rfl rfl .p0 rfl rfl <| rN <| tS <| bndE h fun v26 e5 h => bndE h fun l28 e6 h => ATodo.regionT (id := 14) (A := [0, 1, 3, 0, 8, 24, 63, 0, 128, 0, 512, 1920, 4095, 0, 16383]) (H0 := []) (HH := fun β => [((β 12), .arr 3 (l28.map Version.av)), ((β 13), .cells [.nil, I (0 : Int)]), (b25, .cells [I v24.Version.Major, I v24.Version.Minor, I v24.Version.Patch, .list 1 (v24.Models.map AV.str), .list 6 (v24.From.map Range.av), I v24.Size]), (b2, .cells [I p3x0.Major, I p3x0.Minor, I p3x0.Patch]), (b12, .mp (l22.map (fun e => (Version.av e.1, Fleetref2_trip.av e.2)))), (b17, .cells [.list 3 (v2m.2.way_.map Version.av), I v2m.2.size_]), (b13, .mit b7 ce2 sv2m), (b7, .mpb Le2 ce2), (b19, .arr 6 (v18.map Image.av))]) 14 mixed rfl (by kernel_rfl) (by kernel_rfl) [⟨some 2, some 6, [], fun b => (b, .arr 3 (v26.map Version.av)), none⟩, ⟨some 6, some 12, [], fun b => (b, .arr 3 (l28.map Version.av)), none⟩, ⟨some 12, none, [], fun b => (b, .arr 3 (l28.map Version.av)), none⟩, ⟨some 13, none, [], fun b => (b, .cells [.nil, I (0 : Int)]), none⟩] [2, 6, 12, 13] rfl (by kernel_rfl) rfl .nil (fun _ => rfl) <| AT.am 2 rfl rfl <| AM.qv (n_field_ptr rfl rfl) rfl <| AM.qv (q_load_ptr rfl rfl .p3 rfl) rfl <| AM.nil <| AT.runD (V := fun b => .sl 3 b 0 v26.length) (Ti := []) (Pi := fun b => [(b, .arr 3 (v26.map Version.av))]) (fun _ => rfl) (fun _ => rfl) (fun _ _ => rfl) rfl (fun _ => rfl) rfl rfl rfl ?_ ?_
                · exact t_call1 rfl (slices_Clone_Version_Version_c e5) (CoL.refl _) .nil (fun _ => rfl) rfl fun b27 => ARun.nil ⟨b27, _, rfl, rfl⟩
                refine AT.am 3 rfl rfl <| AM.qv (n_field_ptr rfl rfl) rfl <| AM.qv (n_load_ptr_part rfl rfl .p0 rfl rfl) rfl <| AM.buildSliceL (xs := ([v24.Version] : List Version).map Version.av) rfl rfl rfl rfl rfl rfl <| AM.nil <| AT.runE (V := fun b => .sl 3 b 0 l28.length) (Ti := fun β => [((β 2), .arr 3 (v26.map Version.av))]) (Pi := fun b => [(b, .arr 3 (l28.map Version.av))]) (fun _ => rfl) (fun _ => rfl) (fun _ _ => rfl) (fun _ => rfl) (fun _ => rfl) rfl rfl rfl (fun β => ?_) ?_
                · generalize β 2 = b27
                  exact t_append (g := Version.av) rfl rfl rfl rfl rfl rfl rfl rfl (.list _) e6 (fun _ => .p0) rfl fun b29 => ARun.nil ⟨b29, _, rfl, rfl⟩
                refine AT.am 5 rfl rfl <| AM.qv (n_field_ptr rfl rfl) rfl <| AM.qv (q_load_ptr rfl rfl .p3 rfl) rfl <| AM.qv (n_field_ptr rfl rfl) rfl <| AM.qv (q_load_ptr rfl rfl .p0 rfl) rfl <| AM.qv (q_addw rfl rfl) rfl <| AM.nil <| AT.runE (V := fun b => .agg [.sl 3 b 0 l28.length, I (w64 (v2m.2.size_ + v24.Size))]) (Ti := fun β => [((β 6), .arr 3 (l28.map Version.av))]) (Pi := fun b => [(b, .arr 3 (l28.map Version.av))]) (fun _ => rfl) (fun _ => rfl) (fun _ _ => rfl) (fun _ => rfl) (fun _ => rfl) rfl rfl rfl (fun β => ?_) ?_
                · generalize β 6 = b29
                  exact ARun.qv (n_build rfl rfl rfl rfl rfl) rfl <| ARun.nil ⟨b29, _, rfl, rfl⟩
                refine AT.runD (V := fun b => .ptr b 0) (Ti := []) (Pi := fun b => [(b, .cells [.nil, I (0 : Int)])]) (fun _ => rfl) (fun _ => rfl) (fun _ _ => rfl) rfl (fun _ => rfl) rfl rfl rfl ?_ ?_
                · exact n_alloc rfl rfl rfl rfl fun b31 => ARun.nil ⟨b31, _, rfl, rfl⟩
                refine AT.nilN (fun _ => rfl) fun β => ?_
                generalize β 2 = b27
                generalize β 6 = b29
                generalize β 12 = b30
                generalize β 13 = b31
                clear β
                refine n_store_ptr rfl rfl rfl rfl .p1 rfl rfl <| rN <| tSR <| rM rfl rfl <| rF rfl rfl rfl <| ARun.qv (n_load_ptr_part rfl rfl .p2 rfl rfl) rfl <| bndE h fun v32 e7 h => ARun.qv (t_lookup2N (gk := Version.av) (gv := Fleetref2_trip.av) (M := l22) (key := v24.Version) (Z := (⟨[], (0 : Int)⟩ : Fleetref2_trip)) rfl rfl .p4 rfl rfl e7 rfl) rfl <| rM rfl rfl <| rX rfl rfl rfl <| rX rfl rfl rfl <| n_alloc rfl rfl rfl rfl fun b33 => n_store_ptr rfl rfl rfl rfl .p0 rfl rfl <| rA rfl rfl <| rN <| tS <| ATodo.cut (fun σ' => ∃ (c34 : Bool), Q_WayOf_j1 v2m l22 n23 v24 l28 c34 = some z3 ∧ σ' = ⟨107, [(0, .list 6 (p0x0.map Image.av)), (1, .str p1x0), (7, .ptr b2 0), (13, .mref b12), (15, .ptr b17 0), (17, .ptr b25 0), (18, .ptr b31 0), (27, I (w64 ((p0x0.length : Int) + (1 : Int)))), (28, I n9), (41, .ptr b13 0), (50, .sl 6 b19 0 v18.length), (51, I (v18.length : Int)), (52, I n23), (99, .bool c34)], [(b2, .cells [I p3x0.Major, I p3x0.Minor, I p3x0.Patch]), (b12, .mp (l22.map (fun e => (Version.av e.1, Fleetref2_trip.av e.2)))), (b17, .cells [.list 3 (v2m.2.way_.map Version.av), I v2m.2.size_]), (b25, .cells [I v24.Version.Major, I v24.Version.Minor, I v24.Version.Patch, .list 1 (v24.Models.map AV.str), .list 6 (v24.From.map Range.av), I v24.Size]), (b31, .cells [.sl 3 b30 0 l28.length, I (w64 (v2m.2.size_ + v24.Size))]), (b30, .arr 3 (l28.map Version.av)), (b13, .mit b7 ce2 sv2m), (b7, .mpb Le2 ce2), (b19, .arr 6 (v18.map Image.av))]⟩) ?_ ?_
                · refine tR <| rM rfl rfl <| ARun.qv (q_not rfl) rfl <| rM rfl rfl <| ARun.guard rfl rfl rfl (fun hc => ?_) (fun hc => ?_)
                  · refine have h := iteFb hc h; rF rfl rfl rfl <| rY rfl rfl rfl <| rL rfl rfl .p2 rfl rfl <| rY rfl rfl rfl <| rF rfl rfl rfl <| rY rfl rfl rfl <| rL rfl rfl .p0 rfl rfl <| rY rfl rfl rfl <| ARun.qv (q_lss rfl rfl) rfl <| rE rfl rfl rfl <| rM rfl rfl <| ARun.guard_df rfl rfl rfl (fun hc => ?_) (fun hc => ?_)
                    · refine have h := iteF hc h; rF rfl rfl rfl <| rY rfl rfl rfl <| rL rfl rfl .p2 rfl rfl <| rY rfl rfl rfl <| rF rfl rfl rfl <| rY rfl rfl rfl <| rL rfl rfl .p0 rfl rfl <| rY rfl rfl rfl <| ARun.qv (q_eql rfl rfl) rfl <| rY rfl rfl rfl <| rM rfl rfl <| ARun.guard_dt rfl rfl rfl (fun hc => ?_) (fun hc => ?_)
                      · exact have h := iteT hc h; rF rfl rfl rfl <| rY rfl rfl rfl <| rL rfl rfl .p2 rfl rfl <| rY rfl rfl rfl <| rF rfl rfl rfl <| rY rfl rfl rfl <| rL rfl rfl .p0 rfl rfl <| rY rfl rfl rfl <| bndE h fun v35 e8 h => r_callpB rfl (slices_CompareFunc_Version_LVersion_Version_Version_c (fun e => Q_VersionOrder_c e) e8) (.cons (CoB.arrT .p1) (.cons (.co (.refl _)) (.cons (.funcL _ _ _ .nil) .nil))) rfl rfl <| rY rfl rfl rfl <| ARun.qv (q_lss rfl rfl) rfl <| rY rfl rfl rfl <| rT rfl rfl rfl <| rE rfl rfl rfl <| rN <| ATodo.stop <| ImpX.lq [4, 4, 4, 3, 2, 1, 1, 1, 1] ⟨decide (v35 < (0 : Int)), h, rfl⟩ rfl rfl
                      · exact have h := iteF hc h; rG rfl rfl rfl rfl <| rG rfl rfl rfl rfl <| rG rfl rfl rfl rfl <| rG rfl rfl rfl rfl <| rG rfl rfl rfl rfl <| rY rfl rfl rfl <| rE rfl rfl rfl <| rE rfl rfl rfl <| rN <| ATodo.stop <| ImpX.lq [4, 4, 4, 3, 2, 1, 1, 1, 1] ⟨false, h, rfl⟩ rfl rfl
                    · exact have h := iteT hc h; rG rfl rfl rfl rfl <| rG rfl rfl rfl rfl <| rG rfl rfl rfl rfl <| rG rfl rfl rfl rfl <| rG rfl rfl rfl rfl <| ARun.guard_und rfl rfl rfl <| ARun.guard_und rfl rfl rfl <| ARun.guard_und rfl rfl rfl <| ARun.guard_und rfl rfl rfl <| ARun.guard_und rfl rfl rfl <| ARun.guard_und rfl rfl rfl <| rG rfl rfl rfl rfl <| rT rfl rfl rfl <| rN <| ATodo.stop <| ImpX.lq [4, 4, 4, 3, 2, 1, 1, 1, 1] ⟨true, h, rfl⟩ rfl rfl
                  · exact have h := iteT hc h; rG rfl rfl rfl rfl <| rG rfl rfl rfl rfl <| rG rfl rfl rfl rfl <| rG rfl rfl rfl rfl <| rT rfl rfl rfl <| rM rfl rfl <| rG rfl rfl rfl rfl <| rG rfl rfl rfl rfl <| rG rfl rfl rfl rfl <| rG rfl rfl rfl rfl <| rG rfl rfl rfl rfl <| rG rfl rfl rfl rfl <| ARun.guard_und rfl rfl rfl <| ARun.guard_und rfl rfl rfl <| ARun.guard_und rfl rfl rfl <| ARun.guard_und rfl rfl rfl <| ARun.guard_und rfl rfl rfl <| ARun.guard_und rfl rfl rfl <| rG rfl rfl rfl rfl <| rT rfl rfl rfl <| rN <| ATodo.stop <| ImpX.lq [4, 4, 4, 3, 2, 1, 1, 1, 1] ⟨true, h, rfl⟩ rfl rfl
                · rintro σ' ⟨c34, h, rfl⟩
                  unfold Q_WayOf_j1 at h
                  refine ATodo.cut (fun σ' => ∃ (l36 : List (Version × Fleetref2_trip)), Q_WayOf_j2 n23 l36 = some z3 ∧ σ' = ⟨107, [(0, .list 6 (p0x0.map Image.av)), (1, .str p1x0), (7, .ptr b2 0), (13, .mref b12), (15, .ptr b17 0), (27, I (w64 ((p0x0.length : Int) + (1 : Int)))), (28, I n9), (41, .ptr b13 0), (50, .sl 6 b19 0 v18.length), (51, I (v18.length : Int)), (52, I n23)], [(b2, .cells [I p3x0.Major, I p3x0.Minor, I p3x0.Patch]), (b12, .mp (l36.map (fun e => (Version.av e.1, Fleetref2_trip.av e.2)))), (b17, .cells [.list 3 (v2m.2.way_.map Version.av), I v2m.2.size_]), (b13, .mit b7 ce2 sv2m), (b7, .mpb Le2 ce2), (b19, .arr 6 (v18.map Image.av))]⟩) ?_ ?_
                  · refine ATodo.cond rfl (fun hc => ?_) (fun hc => ?_)
                    · exact have h := iteT hc h; tR <| rM rfl rfl <| rF rfl rfl rfl <| ARun.qv (n_load_ptr_part rfl rfl .p3 rfl rfl) rfl <| ARun.qv (q_load_ptr_all rfl rfl .p4 rfl) rfl <| ARun.ghost <| ImpX.freeze .p5 <| ImpX.here <| ARun.ghost <| ImpX.cox (s := 103) (av' := .agg [.list 3 (l28.map Version.av), I (w64 (v2m.2.size_ + v24.Size))]) rfl (CoX.aggL (.cons (.co (Co.froT .p5)) (.cons .r .nil))) <| ImpX.here <| t_mapUpdate (gk := Version.av) (gv := Fleetref2_trip.av) (M := l22) (key := v24.Version) (v := (⟨l28, w64 (v2m.2.size_ + v24.Size)⟩ : Fleetref2_trip)) rfl rfl rfl rfl .p1 <| rN <| ATodo.stop <| ImpX.lq [0, 0, 0, 3, 3, 3] ⟨mset l22 v24.Version (⟨l28, w64 (v2m.2.size_ + v24.Size)⟩ : Fleetref2_trip), h, rfl⟩ rfl rfl
                    · exact have h := iteFb hc h; tK <| ATodo.stop <| ImpX.lq [0, 0, 0, 3, 3, 3] ⟨l22, h, rfl⟩ rfl rfl
                  · rintro σ' ⟨l36, h, rfl⟩
                    unfold Q_WayOf_j2 at h
                    refine ATodo.blk <| tR <| ARun.qv (q_addw rfl rfl) rfl <| rM rfl rfl <| rN <| ATodo.stop <| ?_
                    obtain rfl := Option.some.inj h
                    exact hJ3 _ _ rfl <| ImpX.lq [0, 0, 0, 0, 0, 0] rfl rfl rfl
              · refine have h := iteF hc h; ATodo.exit rfl <| have h := outL h hA3; ATodo.blk <| ATodo.stop <| ?_
                obtain rfl := Option.some.inj h
                exact hJ2 _ _ rfl <| ImpX.lq [3, 3, 0, 0] ⟨sv2m, hIv2m, rfl⟩ rfl rfl
    · refine have h := iteF hc h; ATodo.exit rfl <| have h := outL h hA1; tSR <| rA rfl rfl <| rA rfl rfl <| rN <| ATodo.ret <| ?_
      obtain rfl := Option.some.inj h
      exact ImpX.co (s := 8) rfl (.nil 3) <| ImpX.here ⟨_, .cons (.tmp _ _ rfl) (.cons (.tmp _ _ rfl) .nil), rfl⟩

set_option maxHeartbeats 4000000 in
theorem slices_Index_Version_Version_c [GI : GTab] {p0x0 : List Version} {p1x0 : Version} {r : Int} (h : slices_Index_Version_Version p0x0 p1x0 = some r) : Pu Tryz.prog 170 [.list 3 (p0x0.map Version.av), .agg [I p1x0.Major, I p1x0.Minor, I p1x0.Patch]] (I r) := by
  unfold slices_Index_Version_Version at h
  refine ACall.bodyN Tryz.func170 rfl Tryz.ntmps170 Tryz.results170 rfl rfl ?_
  refine tSR <| n_box rfl rfl rfl rfl fun b1 => rA rfl rfl <| rN <| tS <| tSR <| rM rfl rfl <| ARun.qv (t_len rfl) rfl <| rM rfl rfl <| rN <| ATodo.block <| ATodo.loopI (fun x : Int => slices_Index_Version_Version_b1 p0x0 p1x0 x) (fun x σ' => σ' = ⟨19, [(0, .list 3 (p0x0.map Version.av)), (3, .ptr b1 0), (7, I (p0x0.length : Int)), (8, I x)], [(b1, .cells [I p1x0.Major, I p1x0.Minor, I p1x0.Patch])]⟩) h ?_ ?_
  · exact ImpX.lq [0] rfl rfl rfl
  · intro n3 z1 σ' J1 hmk h hJ1 hA1
    obtain rfl := hmk
    replace h : slices_Index_Version_Version_b1 p0x0 p1x0 n3 = some z1 := h
    unfold slices_Index_Version_Version_b1 at h
    refine tSR <| ARun.qv (q_lss rfl rfl) rfl <| rN <| tS <| ATodo.cond_d rfl (fun hc => ?_) (fun hc => ?_)
    · refine have h := iteT hc h; tK <| tS <| ATodo.block <| tSR <| rM rfl rfl <| rA rfl rfl <| rN <| tS <| ATodo.regionM (id := 4) (A := [0, 0, 0, 6, 14, 31]) 6 mixed rfl (by kernel_rfl) (by kernel_rfl) <| AM.qv (q_load_ptr_all rfl rfl .p0 rfl) rfl <| AM.qv (q_move rfl) rfl <| AM.qv (q_move rfl) rfl <| bndE h fun v4 e1 h => AM.qv (t_index rfl rfl rfl e1 rfl rfl) rfl <| AM.qv (q_load_rptr_agg rfl rfl rfl) rfl <| AM.qv (t_teq (g := Version.av) (X := p1x0) (Y := v4) rfl rfl rfl rfl rfl) rfl <| AM.nil <| rN <| ATodo.cond_d rfl (fun hc => ?_) (fun hc => ?_)
      · refine have h := iteT hc h; tSR <| rM rfl rfl <| rA rfl rfl <| rN <| ATodo.ret <| have h := outL h hA1; ?_
        obtain rfl := Option.some.inj h
        exact ImpX.here ⟨_, .cons (.tmp _ _ rfl) .nil, rfl⟩
      · refine have h := iteF hc h; tK <| ATodo.blk <| tR <| ARun.qv (q_addw rfl rfl) rfl <| rM rfl rfl <| rN <| ATodo.stop <| ?_
        obtain rfl := Option.some.inj h
        exact hJ1 _ _ rfl <| ImpX.lq [0] rfl rfl rfl
    · refine have h := iteF hc h; ATodo.exit rfl <| have h := outL h hA1; tSR <| rA rfl rfl <| rN <| ATodo.ret <| ?_
      obtain rfl := Option.some.inj h
      exact ImpX.here ⟨_, .cons (.tmp _ _ rfl) .nil, rfl⟩

set_option maxHeartbeats 4000000 in
theorem slices_Contains_Version_Version_c [GI : GTab] {p0x0 : List Version} {p1x0 : Version} {r : Bool} (h : slices_Contains_Version_Version p0x0 p1x0 = some r) : Pu Tryz.prog 117 [.list 3 (p0x0.map Version.av), .agg [I p1x0.Major, I p1x0.Minor, I p1x0.Patch]] (.bool r) := by
  unfold slices_Contains_Version_Version at h
  refine ACall.bodyN Tryz.func117 rfl Tryz.ntmps117 Tryz.results117 rfl rfl ?_
  refine tSR <| n_box rfl rfl rfl rfl fun b1 => rA rfl rfl <| rN <| tSR <| rM rfl rfl <| ARun.qv (q_load_ptr_all rfl rfl .p0 rfl) rfl <| bndE h fun v2 e1 h => r_callp rfl (slices_Index_Version_Version_c e1) (CoL.refl _) rfl <| ARun.qv (q_geq rfl rfl) rfl <| rA rfl rfl <| rN <| ATodo.ret <| ?_
  obtain rfl := Option.some.inj h
  exact ImpX.here ⟨_, .cons (.tmp _ _ rfl) .nil, rfl⟩

set_option maxHeartbeats 4000000 in
theorem Q_ReachOf_1x_c [GI : GTab] {p0x0 : Range} {p1x0 : Range} {r : Int} (h : Q_ReachOf_1x p0x0 p1x0 = some r) : Pu Tryz.prog 119 [.agg [I p0x0.Low.Major, I p0x0.Low.Minor, I p0x0.Low.Patch, I p0x0.High.Major, I p0x0.High.Minor, I p0x0.High.Patch], .agg [I p1x0.Low.Major, I p1x0.Low.Minor, I p1x0.Low.Patch, I p1x0.High.Major, I p1x0.High.Minor, I p1x0.High.Patch]] (I r) := by
  unfold Q_ReachOf_1x at h
  refine ACall.bodyN Tryz.func119 rfl Tryz.ntmps119 Tryz.results119 rfl rfl ?_
  refine tSR <| n_box rfl rfl rfl rfl fun b1 => n_box rfl rfl rfl rfl fun b2 => rA rfl rfl <| rN <| tSR <| rF rfl rfl rfl <| ARun.qv (n_load_ptr_part rfl rfl .p1 rfl rfl) rfl <| rF rfl rfl rfl <| ARun.qv (n_load_ptr_part rfl rfl .p0 rfl rfl) rfl <| bndE h fun v3 e1 h => r_callp rfl (Q_VersionOrder_c e1) (CoL.refl _) rfl <| rA rfl rfl <| rN <| ATodo.ret <| ?_
  obtain rfl := Option.some.inj h
  exact ImpX.here ⟨_, .cons (.tmp _ _ rfl) .nil, rfl⟩

set_option maxHeartbeats 4000000 in
theorem Q_rank_c [GI : GTab] {p0x0 : Version} {r : Int} (h : Q_rank p0x0 = r) : Pu Tryz.prog 120 [.agg [I p0x0.Major, I p0x0.Minor, I p0x0.Patch]] (I r) := by
  unfold Q_rank at h
  refine ACall.bodyN Tryz.func120 rfl Tryz.ntmps120 Tryz.results120 rfl rfl ?_
  refine tSR <| n_box rfl rfl rfl rfl fun b1 => rA rfl rfl <| rN <| tSR <| rF rfl rfl rfl <| rL rfl rfl .p0 rfl rfl <| ARun.qv (q_mulw rfl rfl) rfl <| rF rfl rfl rfl <| rL rfl rfl .p0 rfl rfl <| ARun.qv (q_addw rfl rfl) rfl <| ARun.qv (q_mulw rfl rfl) rfl <| rF rfl rfl rfl <| rL rfl rfl .p0 rfl rfl <| ARun.qv (q_addw rfl rfl) rfl <| rA rfl rfl <| rN <| ATodo.ret <| ?_
  obtain rfl := h
  exact ImpX.here ⟨_, .cons (.tmp _ _ rfl) .nil, rfl⟩

set_option maxHeartbeats 4000000 in
theorem Q_ranked_c [GI : GTab] {p0x0 : Int} {r : Version} (h : Q_ranked p0x0 = r) : Pu Tryz.prog 121 [I p0x0] (.agg [I r.Major, I r.Minor, I r.Patch]) := by
  unfold Q_ranked at h
  refine ACall.bodyN Tryz.func121 rfl Tryz.ntmps121 Tryz.results121 rfl rfl ?_
  refine tSR <| n_alloc rfl rfl rfl rfl fun b1 => rN <| tSR <| rM rfl rfl <| ARun.qv (t_quo rfl rfl (by decide)) rfl <| ARun.qv (t_quo rfl rfl (by decide)) rfl <| rM rfl rfl <| ARun.qv (t_quo rfl rfl (by decide)) rfl <| ARun.qv (q_rem rfl rfl (by decide)) rfl <| rM rfl rfl <| ARun.qv (q_rem rfl rfl (by decide)) rfl <| ARun.qv (n_build rfl rfl rfl rfl rfl) rfl <| n_store_ptr rfl rfl rfl rfl .p0 rfl rfl <| rN <| ATodo.ret <| ?_
  obtain rfl := h
  exact ImpX.here ⟨_, .cons (.all _ _ _ _ _ _ rfl .p0 TUnder.h TInfo.h rfl rfl) .nil, rfl⟩

set_option maxHeartbeats 4000000 in
theorem Q_ReachOf_c [GI : GTab] {p0x0 : List Image} {p1x0 : Str} {p2x0 : Version} {r : (List Range)} (h : Q_ReachOf p0x0 p1x0 p2x0 = some r) : ACall Tryz.prog 53 [.list 6 (p0x0.map Image.av), .str p1x0, .agg [I p2x0.Major, I p2x0.Minor, I p2x0.Patch]] [] (T1 (fun d_0 => [(d_0, .arr 6 (r.map Range.av))]) (fun d_0 => .sl 6 d_0 0 r.length)) := by
  unfold Q_ReachOf at h
  refine ACall.lessH ?_
  refine ACall.bodyN Tryz.func53 rfl Tryz.ntmps53 Tryz.results53 rfl rfl ?_
  refine tSR <| n_box rfl rfl rfl rfl fun b1 => rA rfl rfl <| rN <| tSR <| ARun.qv (q_load_ptr_all rfl rfl .p0 rfl) rfl <| n_buildSlice rfl rfl rfl rfl rfl rfl fun b2 => rA rfl rfl <| rN <| tSR <| ARun.qv (q_load_ptr_all rfl rfl .p1 rfl) rfl <| ARun.qv (q_load_ptr_all rfl rfl .p1 rfl) rfl <| ARun.qv (n_build rfl rfl rfl rfl rfl) rfl <| n_buildSlice rfl rfl rfl rfl rfl rfl fun b3 => rA rfl rfl <| rN <| tS <| tSR <| rA rfl rfl <| rN <| ATodo.block <| ATodo.loopI (fun x : (List Version) × (List Range) × Bool => Q_ReachOf_b1 p0x0 p1x0 x.1 x.2.1 x.2.2) (fun x σ' => ∃ (b9 : Bk) (b11 : Bk), σ' = ⟨118, [(0, .list 6 (p0x0.map Image.av)), (1, .str p1x0), (7, .sl 3 b9 0 x.1.length), (8, .sl 6 b11 0 x.2.1.length), (9, .bool x.2.2)], [(b9, .arr 3 (x.1.map Version.av)), (b11, .arr 6 (x.2.1.map Range.av))]⟩) h ?_ ?_
  · exact ImpX.lq [1, 0] ⟨b2, b3, rfl⟩ rfl rfl
  · intro x z1 σ' J1 hmk h hJ1 hA1
    obtain ⟨l10, l12, c13⟩ := x
    obtain ⟨b9, b11, rfl⟩ := hmk
    replace h : Q_ReachOf_b1 p0x0 p1x0 l10 l12 c13 = some z1 := h
    unfold Q_ReachOf_b1 at h
    refine tS <| tSR <| rM rfl rfl <| rN <| ATodo.cond rfl (fun hc => ?_) (fun hc => ?_)
    · refine have h := iteT hc h; tK <| ATodo.block <| tSR <| rA rfl rfl <| rN <| tSR <| rM rfl rfl <| ARun.qv (t_len rfl) rfl <| rM rfl rfl <| rN <| ATodo.block <| ATodo.loopI (fun x : (List Version) × (List Range) × Bool × Int => Q_ReachOf_b2 p0x0 p1x0 x.1 x.2.1 x.2.2.1 x.2.2.2) (fun x σ' => ∃ (b20 : Bk) (b22 : Bk), σ' = ⟨118, [(0, .list 6 (p0x0.map Image.av)), (1, .str p1x0), (7, .sl 3 b20 0 x.1.length), (8, .sl 6 b22 0 x.2.1.length), (9, .bool x.2.2.1), (25, .list 6 (p0x0.map Image.av)), (26, I (p0x0.length : Int)), (27, I x.2.2.2)], [(b20, .arr 3 (x.1.map Version.av)), (b22, .arr 6 (x.2.1.map Range.av))]⟩) h ?_ ?_
      · exact ImpX.lq [0, 0] ⟨b9, b11, rfl⟩ rfl rfl
      · intro x z2 σ' J2 hmk h hJ2 hA2
        obtain ⟨l21, l23, c24, n25⟩ := x
        obtain ⟨b20, b22, rfl⟩ := hmk
        replace h : Q_ReachOf_b2 p0x0 p1x0 l21 l23 c24 n25 = some z2 := h
        unfold Q_ReachOf_b2 at h
        refine tSR <| ARun.qv (q_lss rfl rfl) rfl <| rN <| tS <| ATodo.cond_d rfl (fun hc => ?_) (fun hc => ?_)
        · refine have h := iteT hc h; tK <| tS <| ATodo.cut (fun σ' => ∃ (b26 : Bk) (b28 : Bk) (l27 : List Version) (l29 : List Range) (c30 : Bool), Q_ReachOf_j1 n25 l27 l29 c30 = some z2 ∧ σ' = ⟨118, [(0, .list 6 (p0x0.map Image.av)), (1, .str p1x0), (7, .sl 3 b26 0 l27.length), (8, .sl 6 b28 0 l29.length), (9, .bool c30), (25, .list 6 (p0x0.map Image.av)), (26, I (p0x0.length : Int)), (27, I n25)], [(b26, .arr 3 (l27.map Version.av)), (b28, .arr 6 (l29.map Range.av))]⟩) ?_ ?_
          · refine ATodo.block <| tSR <| bndE h fun v31 e1 h => ARun.qv (t_index rfl rfl rfl e1 rfl rfl) rfl <| ARun.qv (q_load_rptr_agg rfl rfl rfl) rfl <| n_alloc rfl rfl rfl rfl fun b32 => n_store_ptr rfl rfl rfl rfl .p0 rfl rfl <| rN <| tS <| tS <| ATodo.cut (fun σ' => ∃ (c33 : Bool), Q_ReachOf_j2 p0x0 l21 l23 c24 n25 v31 c33 = some z2 ∧ σ' = ⟨118, [(0, .list 6 (p0x0.map Image.av)), (1, .str p1x0), (7, .sl 3 b20 0 l21.length), (8, .sl 6 b22 0 l23.length), (9, .bool c24), (11, .ptr b32 0), (25, .list 6 (p0x0.map Image.av)), (26, I (p0x0.length : Int)), (27, I n25), (42, .bool c33)], [(b20, .arr 3 (l21.map Version.av)), (b22, .arr 6 (l23.map Range.av)), (b32, .cells [I v31.Version.Major, I v31.Version.Minor, I v31.Version.Patch, .list 1 (v31.Models.map AV.str), .list 6 (v31.From.map Range.av), I v31.Size])]⟩) ?_ ?_
            · refine tR <| rF rfl rfl rfl <| rL rfl rfl .p0 rfl rfl <| rM rfl rfl <| bndE h fun v34 e2 h => r_callp rfl (slices_Contains_string_string_c e2) (CoL.refl _) rfl <| ARun.qv (q_not rfl) rfl <| rM rfl rfl <| ARun.guard rfl rfl rfl (fun hc => ?_) (fun hc => ?_)
              · exact have h := iteFb hc h; rM rfl rfl <| rY rfl rfl rfl <| rF rfl rfl rfl <| rY rfl rfl rfl <| ARun.qv (n_load_ptr_part rfl rfl .p0 rfl rfl) rfl <| rY rfl rfl rfl <| bndE h fun v35 e3 h => r_callpB rfl (slices_Contains_Version_Version_c e3) (.cons (CoB.arrT .p1) (.cons (.co (.refl _)) .nil)) rfl rfl <| rY rfl rfl rfl <| ARun.qv (q_not rfl) rfl <| rE rfl rfl rfl <| rN <| ATodo.stop <| ImpX.lq [1, 1, 0] ⟨!v35, h, rfl⟩ rfl rfl
              · exact have h := iteT hc h; rG rfl rfl rfl rfl <| rG rfl rfl rfl rfl <| rG rfl rfl rfl rfl <| rG rfl rfl rfl rfl <| rT rfl rfl rfl <| rN <| ATodo.stop <| ImpX.lq [1, 1, 0] ⟨true, h, rfl⟩ rfl rfl
            · rintro σ' ⟨c33, h, rfl⟩
              unfold Q_ReachOf_j2 at h
              refine ATodo.cond rfl (fun hc => ?_) (fun hc => ?_)
              · exact have h := iteT hc h; ATodo.exit rfl <| ATodo.stop <| ImpX.lq [0, 0] ⟨b20, b22, l21, l23, c24, h, rfl⟩ rfl rfl
              · refine have h := iteFb hc h; tK <| tSR <| rM rfl rfl <| rF rfl rfl rfl <| rL rfl rfl .p2 rfl rfl <| bndE h fun l36 e4 h => t_append (g := Range.av) rfl rfl rfl rfl rfl rfl rfl rfl (.list _) e4 (fun _ => .p1) rfl fun b37 => rA rfl rfl <| rN <| tSR <| rM rfl rfl <| ARun.qv (t_len rfl) rfl <| rM rfl rfl <| rN <| ATodo.block <| ATodo.loopI (fun x : (List Version) × Bool × Int => Q_ReachOf_b3 p0x0 n25 v31 l36 x.1 x.2.1 x.2.2) (fun x σ' => ∃ (b42 : Bk), σ' = ⟨118, [(0, .list 6 (p0x0.map Image.av)), (1, .str p1x0), (7, .sl 3 b42 0 x.1.length), (8, .sl 6 b37 0 l36.length), (9, .bool x.2.1), (11, .ptr b32 0), (25, .list 6 (p0x0.map Image.av)), (26, I (p0x0.length : Int)), (27, I n25), (47, .list 6 (p0x0.map Image.av)), (48, I (p0x0.length : Int)), (49, I x.2.2)], [(b42, .arr 3 (x.1.map Version.av)), (b37, .arr 6 (l36.map Range.av)), (b32, .cells [I v31.Version.Major, I v31.Version.Minor, I v31.Version.Patch, .list 1 (v31.Models.map AV.str), .list 6 (v31.From.map Range.av), I v31.Size])]⟩) h ?_ ?_
                · exact ImpX.lq [0, 0, 0] ⟨b20, rfl⟩ rfl rfl
                · intro x z3 σ' J3 hmk h hJ3 hA3
                  obtain ⟨l43, c44, n45⟩ := x
                  obtain ⟨b42, rfl⟩ := hmk
                  replace h : Q_ReachOf_b3 p0x0 n25 v31 l36 l43 c44 n45 = some z3 := h
                  unfold Q_ReachOf_b3 at h
                  refine tSR <| ARun.qv (q_lss rfl rfl) rfl <| rN <| tS <| ATodo.cond_d rfl (fun hc => ?_) (fun hc => ?_)
                  · refine have h := iteT hc h; tK <| tS <| ATodo.block <| tSR <| bndE h fun v46 e5 h => ARun.qv (t_index rfl rfl rfl e5 rfl rfl) rfl <| ARun.qv (q_load_rptr_agg rfl rfl rfl) rfl <| n_alloc rfl rfl rfl rfl fun b47 => n_store_ptr rfl rfl rfl rfl .p0 rfl rfl <| rN <| tS <| ATodo.cut (fun σ' => ∃ (c48 : Bool), Q_ReachOf_j3 l43 c44 n45 v46 c48 = some z3 ∧ σ' = ⟨118, [(0, .list 6 (p0x0.map Image.av)), (1, .str p1x0), (7, .sl 3 b42 0 l43.length), (8, .sl 6 b37 0 l36.length), (9, .bool c44), (11, .ptr b32 0), (13, .ptr b47 0), (25, .list 6 (p0x0.map Image.av)), (26, I (p0x0.length : Int)), (27, I n25), (47, .list 6 (p0x0.map Image.av)), (48, I (p0x0.length : Int)), (49, I n45), (63, .bool c48)], [(b42, .arr 3 (l43.map Version.av)), (b37, .arr 6 (l36.map Range.av)), (b32, .cells [I v31.Version.Major, I v31.Version.Minor, I v31.Version.Patch, .list 1 (v31.Models.map AV.str), .list 6 (v31.From.map Range.av), I v31.Size]), (b47, .cells [I v46.Version.Major, I v46.Version.Minor, I v46.Version.Patch, .list 1 (v46.Models.map AV.str), .list 6 (v46.From.map Range.av), I v46.Size])]⟩) ?_ ?_
                    · refine tR <| ARun.qv (q_load_ptr_all rfl rfl .p3 rfl) rfl <| rF rfl rfl rfl <| ARun.qv (n_load_ptr_part rfl rfl .p0 rfl rfl) rfl <| bndE h fun v49 e6 h => r_callp rfl (Q_fits_c e6) (CoL.refl _) rfl <| rM rfl rfl <| ARun.guard rfl rfl rfl (fun hc => ?_) (fun hc => ?_)
                      · exact have h := iteT hc h; rM rfl rfl <| rY rfl rfl rfl <| rF rfl rfl rfl <| rY rfl rfl rfl <| ARun.qv (n_load_ptr_part rfl rfl .p0 rfl rfl) rfl <| rY rfl rfl rfl <| bndE h fun v50 e7 h => r_callpB rfl (slices_Contains_Version_Version_c e7) (.cons (CoB.arrT .p1) (.cons (.co (.refl _)) .nil)) rfl rfl <| rY rfl rfl rfl <| ARun.qv (q_not rfl) rfl <| rT rfl rfl rfl <| rN <| ATodo.stop <| ImpX.lq [1, 1, 1, 0] ⟨!v50, h, rfl⟩ rfl rfl
                      · exact have h := iteFb hc h; rG rfl rfl rfl rfl <| rG rfl rfl rfl rfl <| rG rfl rfl rfl rfl <| rG rfl rfl rfl rfl <| rE rfl rfl rfl <| rN <| ATodo.stop <| ImpX.lq [1, 1, 1, 0] ⟨false, h, rfl⟩ rfl rfl
                    · rintro σ' ⟨c48, h, rfl⟩
                      unfold Q_ReachOf_j3 at h
                      refine ATodo.cut (fun σ' => ∃ (b51 : Bk) (l52 : List Version) (c53 : Bool), Q_ReachOf_j4 n45 l52 c53 = some z3 ∧ σ' = ⟨118, [(0, .list 6 (p0x0.map Image.av)), (1, .str p1x0), (7, .sl 3 b51 0 l52.length), (8, .sl 6 b37 0 l36.length), (9, .bool c53), (11, .ptr b32 0), (25, .list 6 (p0x0.map Image.av)), (26, I (p0x0.length : Int)), (27, I n25), (47, .list 6 (p0x0.map Image.av)), (48, I (p0x0.length : Int)), (49, I n45)], [(b51, .arr 3 (l52.map Version.av)), (b37, .arr 6 (l36.map Range.av)), (b32, .cells [I v31.Version.Major, I v31.Version.Minor, I v31.Version.Patch, .list 1 (v31.Models.map AV.str), .list 6 (v31.From.map Range.av), I v31.Size])]⟩) ?_ ?_
                      · refine ATodo.cond rfl (fun hc => ?_) (fun hc => ?_)
                        · exact have h := iteT hc h; tR <| rM rfl rfl <| rF rfl rfl rfl <| ARun.qv (n_load_ptr_part rfl rfl .p3 rfl rfl) rfl <| n_buildSliceL (xs := ([v46.Version] : List Version).map Version.av) rfl rfl rfl rfl rfl rfl <| bndE h fun l54 e8 h => t_append (g := Version.av) rfl rfl rfl rfl rfl rfl rfl rfl (.list _) e8 (fun _ => .p0) rfl fun b55 => rA rfl rfl <| rA rfl rfl <| rN <| ATodo.stop <| ImpX.lq [0, 0, 0] ⟨b55, l54, true, h, rfl⟩ rfl rfl
                        · exact have h := iteFb hc h; tK <| ATodo.stop <| ImpX.lq [0, 0, 0] ⟨b42, l43, c44, h, rfl⟩ rfl rfl
                      · rintro σ' ⟨b51, l52, c53, h, rfl⟩
                        unfold Q_ReachOf_j4 at h
                        refine ATodo.blk <| tR <| ARun.qv (q_addw rfl rfl) rfl <| rM rfl rfl <| rN <| ATodo.stop <| ?_
                        obtain rfl := Option.some.inj h
                        exact hJ3 _ _ rfl <| ImpX.lq [0, 0, 0] ⟨b51, rfl⟩ rfl rfl
                  · exact have h := iteF hc h; ATodo.exit rfl <| have h := outL h hA3; ATodo.blk <| ATodo.stop <| ImpX.lq [0, 0] ⟨b42, b37, l43, l36, c44, h, rfl⟩ rfl rfl
          · rintro σ' ⟨b26, b28, l27, l29, c30, h, rfl⟩
            unfold Q_ReachOf_j1 at h
            refine tR <| ARun.qv (q_addw rfl rfl) rfl <| rM rfl rfl <| rN <| ATodo.stop <| ?_
            obtain rfl := Option.some.inj h
            exact hJ2 _ _ rfl <| ImpX.lq [0, 0] ⟨b26, b28, rfl⟩ rfl rfl
        · refine have h := iteF hc h; ATodo.exit rfl <| have h := outL h hA2; ATodo.blk <| ATodo.stop <| ?_
          obtain rfl := Option.some.inj h
          exact hJ1 _ _ rfl <| ImpX.lq [0, 0] ⟨b20, b22, rfl⟩ rfl rfl
    · refine have h := iteFb hc h; ATodo.exit rfl <| have h := outL h hA1; ?_
      unfold Q_ReachOf_k7 at h
      refine tSR <| rM rfl rfl <| bndE h fun v56 e9 h => t_call0 rfl (slices_SortFunc_Range_Range_c (fun e => Q_ReachOf_1x_c (GI := strongT) e) (lenOk_f e9)) (CoL.refl _) (.cons .p1 .nil) rfl rfl <| ARun.ghost <| ImpX.eqs (s := 8) (av' := .sl 6 b11 0 v56.length) rfl (congrArg (AV.sl 6 b11 0) (lenOk_l e9)) <| ImpX.here <| ARun.ghost <| ImpX.eqs (s := 71) (av' := .sl 6 b11 0 v56.length) rfl (congrArg (AV.sl 6 b11 0) (lenOk_l e9)) <| ImpX.here <| rN <| tSR <| rA rfl rfl <| rN <| tS <| tSR <| rM rfl rfl <| ARun.qv (t_len_sl rfl) rfl <| rM rfl rfl <| rN <| ATodo.block <| ATodo.loopI (fun x : (List Range) × Int => Q_ReachOf_b4 v56 x.1 x.2) (fun x σ' => ∃ (b60 : Bk), σ' = ⟨118, [(14, .sl 6 b60 0 x.1.length), (73, .sl 6 b11 0 v56.length), (74, I (v56.length : Int)), (75, I x.2)], [(b60, .arr 6 (x.1.map Range.av)), (b11, .arr 6 (v56.map Range.av))]⟩) h ?_ ?_
      · exact ImpX.arr (s := 14) 6 rfl fun b63 => ImpX.lq [0, 0] ⟨b63, rfl⟩ rfl rfl
      · intro x z4 σ' J4 hmk h hJ4 hA4
        obtain ⟨l61, n62⟩ := x
        obtain ⟨b60, rfl⟩ := hmk
        replace h : Q_ReachOf_b4 v56 l61 n62 = some z4 := h
        unfold Q_ReachOf_b4 at h
        refine tSR <| ARun.qv (q_lss rfl rfl) rfl <| rN <| tS <| ATodo.cond_d rfl (fun hc => ?_) (fun hc => ?_)
        · refine have h := iteT hc h; tK <| tS <| ATodo.cut (fun σ' => ∃ (b64 : Bk) (l65 : List Range), Q_ReachOf_j5 n62 l65 = some z4 ∧ σ' = ⟨118, [(14, .sl 6 b64 0 l65.length), (73, .sl 6 b11 0 v56.length), (74, I (v56.length : Int)), (75, I n62)], [(b64, .arr 6 (l65.map Range.av)), (b11, .arr 6 (v56.map Range.av))]⟩) ?_ ?_
          · refine ATodo.block <| tSR <| bndE h fun v66 e10 h => ARun.qv (t_index_sl rfl rfl rfl e10) rfl <| ARun.qv (t_load_aptr_agg (g := Range.av) rfl rfl (.inl .p1) rfl e10 rfl) rfl <| n_alloc rfl rfl rfl rfl fun b67 => n_store_ptr rfl rfl rfl rfl .p0 rfl rfl <| rN <| tS <| tSR <| rM rfl rfl <| ARun.qv (t_len_sl rfl) rfl <| ARun.qv (q_subw rfl rfl) rfl <| rA rfl rfl <| rN <| tS <| ATodo.cut (fun σ' => ∃ (c68 : Bool), Q_ReachOf_j6 l61 n62 v66 c68 = some z4 ∧ σ' = ⟨118, [(14, .sl 6 b60 0 l61.length), (16, .ptr b67 0), (17, I (w64 ((l61.length : Int) - (1 : Int)))), (73, .sl 6 b11 0 v56.length), (74, I (v56.length : Int)), (75, I n62), (96, .bool c68)], [(b60, .arr 6 (l61.map Range.av)), (b67, .cells [I v66.Low.Major, I v66.Low.Minor, I v66.Low.Patch, I v66.High.Major, I v66.High.Minor, I v66.High.Patch]), (b11, .arr 6 (v56.map Range.av))]⟩) ?_ ?_
            · refine ATodo.regionM (id := 24) (A := [0, 1, 3, 7, 15, 31, 7, 7, 199, 455, 967, 2047, 4095, 8191, 16383]) 15 mixed rfl (by kernel_rfl) (by kernel_rfl) <| AM.qv (q_move rfl) rfl <| AM.qv (q_geq rfl rfl) rfl <| AM.qv (q_move rfl) rfl <| AM.guard_dt rfl rfl rfl (fun hc => ?_) (fun hc => ?_)
              · exact have h := iteT hc h; AM.qv (n_field_ptr rfl rfl) rfl <| AM.guard_yes rfl rfl rfl <| AM.qv (n_load_ptr_part rfl rfl .p0 rfl rfl) rfl <| AM.guard_yes rfl rfl rfl <| AM.callp rfl (Q_rank_c rfl) (CoL.refl _) rfl <| AM.guard_yes rfl rfl rfl <| AM.qv (q_move rfl) rfl <| AM.guard_yes rfl rfl rfl <| AM.qv (q_move rfl) rfl <| AM.guard_yes rfl rfl rfl <| bndE h fun v69 e11 h => AM.qv (t_index_sl rfl rfl rfl e11) rfl <| AM.guard_yes rfl rfl rfl <| AM.qv (t_field_aptr rfl rfl) rfl <| AM.guard_yes rfl rfl rfl <| AM.qv (t_load_aptr_part (g := Range.av) rfl rfl (.inl .p1) e11 rfl rfl) rfl <| AM.guard_yes rfl rfl rfl <| AM.callp rfl (Q_rank_c rfl) (CoL.refl _) rfl <| AM.guard_yes rfl rfl rfl <| AM.qv (q_addw rfl rfl) rfl <| AM.guard_yes rfl rfl rfl <| AM.qv (q_leq rfl rfl) rfl <| AM.qv (q_pick_t rfl rfl) rfl <| AM.nil <| rN <| ATodo.stop <| ImpX.lq [1, 0, 0] ⟨decide ((Q_rank v66.Low) ≤ (w64 ((Q_rank v69.High) + (1 : Int)))), h, rfl⟩ rfl rfl
              · exact have h := iteF hc h; AM.guard_no rfl rfl rfl rfl <| AM.guard_no rfl rfl rfl rfl <| AM.guard_no rfl rfl rfl rfl <| AM.guard_no rfl rfl rfl rfl <| AM.guard_no rfl rfl rfl rfl <| AM.guard_no rfl rfl rfl rfl <| AM.guard_no rfl rfl rfl rfl <| AM.guard_no rfl rfl rfl rfl <| AM.guard_no rfl rfl rfl rfl <| AM.guard_no rfl rfl rfl rfl <| AM.qv (q_pick_f rfl rfl) rfl <| AM.nil <| rN <| ATodo.stop <| ImpX.lq [1, 0, 0] ⟨false, h, rfl⟩ rfl rfl
            · rintro σ' ⟨c68, h, rfl⟩
              unfold Q_ReachOf_j6 at h
              refine ATodo.cond rfl (fun hc => ?_) (fun hc => ?_)
              · exact have h := iteT hc h; tS <| ATodo.regionM (id := 25) (A := [0, 0, 0, 0, 12, 28, 60, 124, 0, 256, 1020, 2044, 4092, 8191, 16383, 32767]) 15 mixed rfl (by kernel_rfl) (by kernel_rfl) <| AM.qv (q_move rfl) rfl <| AM.qv (q_move rfl) rfl <| AM.qv (q_move rfl) rfl <| AM.qv (q_move rfl) rfl <| bndE h fun v70 e12 h => AM.qv (t_index_sl rfl rfl rfl e12) rfl <| AM.qv (t_field_aptr rfl rfl) rfl <| AM.qv (t_load_aptr_part (g := Range.av) rfl rfl (.inl .p0) e12 rfl rfl) rfl <| AM.callp rfl (Q_rank_c rfl) (CoL.refl _) rfl <| AM.qv (n_field_ptr rfl rfl) rfl <| AM.qv (n_load_ptr_part rfl rfl .p1 rfl rfl) rfl <| AM.callp rfl (Q_rank_c rfl) (CoL.refl _) rfl <| AM.qv (q_max rfl rfl) rfl <| AM.callp rfl (Q_ranked_c rfl) (CoL.refl _) rfl <| bndE h fun v71 e13 h => AM.qv (t_index_sl rfl rfl rfl e13) rfl <| AM.qv (t_field_aptr rfl rfl) rfl <| AM.nil <| t_store_aptr1 (g := Range.av) (el' := (⟨v71.Low, (Q_ranked (max (Q_rank v70.High) (Q_rank v66.High)))⟩ : Range)) rfl rfl rfl rfl e13 rfl .p0 rfl <| ARun.ghost <| ImpX.eqs (s := 14) (av' := .sl 6 b60 0 (l61.set (w64 ((l61.length : Int) - (1 : Int))).toNat (⟨v71.Low, (Q_ranked (max (Q_rank v70.High) (Q_rank v66.High)))⟩ : Range)).length) rfl (by rw [List.length_set]) <| ImpX.here <| ARun.ghost <| ImpX.eqs (s := 97) (av' := .sl 6 b60 0 (l61.set (w64 ((l61.length : Int) - (1 : Int))).toNat (⟨v71.Low, (Q_ranked (max (Q_rank v70.High) (Q_rank v66.High)))⟩ : Range)).length) rfl (by rw [List.length_set]) <| ImpX.here <| ARun.ghost <| ImpX.eqs (s := 99) (av' := .sl 6 b60 0 (l61.set (w64 ((l61.length : Int) - (1 : Int))).toNat (⟨v71.Low, (Q_ranked (max (Q_rank v70.High) (Q_rank v66.High)))⟩ : Range)).length) rfl (by rw [List.length_set]) <| ImpX.here <| rN <| ATodo.exit rfl <| ATodo.stop <| ImpX.lq [0, 1] ⟨b60, l61.set (w64 ((l61.length : Int) - (1 : Int))).toNat (⟨v71.Low, (Q_ranked (max (Q_rank v70.High) (Q_rank v66.High)))⟩ : Range), h, rfl⟩ rfl rfl
              · exact have h := iteFb hc h; tK <| tR <| rM rfl rfl <| ARun.qv (q_load_ptr_all rfl rfl .p1 rfl) rfl <| n_buildSliceL (xs := ([v66] : List Range).map Range.av) rfl rfl rfl rfl rfl rfl <| bndE h fun l72 e14 h => t_append (g := Range.av) rfl rfl rfl rfl rfl rfl rfl rfl (.list _) e14 (fun _ => .p0) rfl fun b73 => rA rfl rfl <| rN <| ATodo.blk <| ATodo.stop <| ImpX.lq [0, 1] ⟨b73, l72, h, rfl⟩ rfl rfl
          · rintro σ' ⟨b64, l65, h, rfl⟩
            unfold Q_ReachOf_j5 at h
            refine tR <| ARun.qv (q_addw rfl rfl) rfl <| rM rfl rfl <| rN <| ATodo.stop <| ?_
            obtain rfl := Option.some.inj h
            exact hJ4 _ _ rfl <| ImpX.lq [0, 0] ⟨b64, rfl⟩ rfl rfl
        · refine have h := iteF hc h; ATodo.exit rfl <| have h := outL h hA4; tSR <| rM rfl rfl <| rA rfl rfl <| rN <| ATodo.ret <| ?_
          obtain rfl := Option.some.inj h
          exact ImpX.here ⟨_, .cons (.tmp _ _ rfl) .nil, _, .cons .p0 .nil, ⟨b60, rfl, rfl⟩⟩

set_option maxHeartbeats 4000000 in
theorem slices_Equal_Version_Version_c [GI : GTab] {p0x0 : List Version} {p1x0 : List Version} {r : Bool} (h : slices_Equal_Version_Version p0x0 p1x0 = some r) : Pu Tryz.prog 54 [.list 3 (p0x0.map Version.av), .list 3 (p1x0.map Version.av)] (.bool r) := by
  unfold slices_Equal_Version_Version at h
  refine ACall.bodyN Tryz.func54 rfl Tryz.ntmps54 Tryz.results54 rfl rfl ?_
  refine tSR <| rA rfl rfl <| rN <| tS <| tSR <| rM rfl rfl <| ARun.qv (t_len rfl) rfl <| rM rfl rfl <| ARun.qv (t_len rfl) rfl <| ARun.qv (q_neq rfl rfl) rfl <| rN <| ATodo.cond_d rfl (fun hc => ?_) (fun hc => ?_)
  · refine have h := iteT hc h; tSR <| rA rfl rfl <| rN <| ATodo.ret <| ?_
    obtain rfl := Option.some.inj h
    exact ImpX.here ⟨_, .cons (.tmp _ _ rfl) .nil, rfl⟩
  · refine have h := iteF hc h; tK <| tS <| tSR <| rM rfl rfl <| ARun.qv (t_len rfl) rfl <| rM rfl rfl <| rN <| ATodo.block <| ATodo.loopI (fun x : Int => slices_Equal_Version_Version_b1 p0x0 p1x0 x) (fun x σ' => σ' = ⟨26, [(0, .list 3 (p0x0.map Version.av)), (1, .list 3 (p1x0.map Version.av)), (12, I (p0x0.length : Int)), (13, I x)], []⟩) h ?_ ?_
    · exact ImpX.lq [] rfl rfl rfl
    · intro n2 z1 σ' J1 hmk h hJ1 hA1
      obtain rfl := hmk
      replace h : slices_Equal_Version_Version_b1 p0x0 p1x0 n2 = some z1 := h
      unfold slices_Equal_Version_Version_b1 at h
      refine tSR <| ARun.qv (q_lss rfl rfl) rfl <| rN <| tS <| ATodo.cond_d rfl (fun hc => ?_) (fun hc => ?_)
      · refine have h := iteT hc h; tK <| tS <| ATodo.block <| tSR <| rM rfl rfl <| rA rfl rfl <| rN <| tS <| ATodo.regionM (id := 6) (A := [0, 0, 3, 7, 0, 0, 48, 112, 255]) 9 mixed rfl (by kernel_rfl) (by kernel_rfl) <| AM.qv (q_move rfl) rfl <| AM.qv (q_move rfl) rfl <| bndE h fun v3 e1 h => AM.qv (t_index rfl rfl rfl e1 rfl rfl) rfl <| AM.qv (q_load_rptr_agg rfl rfl rfl) rfl <| AM.qv (q_move rfl) rfl <| AM.qv (q_move rfl) rfl <| bndE h fun v4 e2 h => AM.qv (t_index rfl rfl rfl e2 rfl rfl) rfl <| AM.qv (q_load_rptr_agg rfl rfl rfl) rfl <| AM.qv (t_tne (g := Version.av) (X := v3) (Y := v4) rfl rfl rfl rfl rfl) rfl <| AM.nil <| rN <| ATodo.cond_d rfl (fun hc => ?_) (fun hc => ?_)
        · refine have h := iteT hc h; tSR <| rA rfl rfl <| rN <| ATodo.ret <| have h := outL h hA1; ?_
          obtain rfl := Option.some.inj h
          exact ImpX.here ⟨_, .cons (.tmp _ _ rfl) .nil, rfl⟩
        · refine have h := iteF hc h; tK <| ATodo.blk <| tR <| ARun.qv (q_addw rfl rfl) rfl <| rM rfl rfl <| rN <| ATodo.stop <| ?_
          obtain rfl := Option.some.inj h
          exact hJ1 _ _ rfl <| ImpX.lq [] rfl rfl rfl
      · refine have h := iteF hc h; ATodo.exit rfl <| have h := outL h hA1; tSR <| rA rfl rfl <| rN <| ATodo.ret <| ?_
        obtain rfl := Option.some.inj h
        exact ImpX.here ⟨_, .cons (.tmp _ _ rfl) .nil, rfl⟩

set_option maxHeartbeats 4000000 in
theorem slices_Equal_Range_Range_c [GI : GTab] {p0x0 : List Range} {p1x0 : List Range} {r : Bool} (h : slices_Equal_Range_Range p0x0 p1x0 = some r) : Pu Tryz.prog 55 [.list 6 (p0x0.map Range.av), .list 6 (p1x0.map Range.av)] (.bool r) := by
  unfold slices_Equal_Range_Range at h
  refine ACall.bodyN Tryz.func55 rfl Tryz.ntmps55 Tryz.results55 rfl rfl ?_
  refine tSR <| rA rfl rfl <| rN <| tS <| tSR <| rM rfl rfl <| ARun.qv (t_len rfl) rfl <| rM rfl rfl <| ARun.qv (t_len rfl) rfl <| ARun.qv (q_neq rfl rfl) rfl <| rN <| ATodo.cond_d rfl (fun hc => ?_) (fun hc => ?_)
  · refine have h := iteT hc h; tSR <| rA rfl rfl <| rN <| ATodo.ret <| ?_
    obtain rfl := Option.some.inj h
    exact ImpX.here ⟨_, .cons (.tmp _ _ rfl) .nil, rfl⟩
  · refine have h := iteF hc h; tK <| tS <| tSR <| rM rfl rfl <| ARun.qv (t_len rfl) rfl <| rM rfl rfl <| rN <| ATodo.block <| ATodo.loopI (fun x : Int => slices_Equal_Range_Range_b1 p0x0 p1x0 x) (fun x σ' => σ' = ⟨26, [(0, .list 6 (p0x0.map Range.av)), (1, .list 6 (p1x0.map Range.av)), (12, I (p0x0.length : Int)), (13, I x)], []⟩) h ?_ ?_
    · exact ImpX.lq [] rfl rfl rfl
    · intro n2 z1 σ' J1 hmk h hJ1 hA1
      obtain rfl := hmk
      replace h : slices_Equal_Range_Range_b1 p0x0 p1x0 n2 = some z1 := h
      unfold slices_Equal_Range_Range_b1 at h
      refine tSR <| ARun.qv (q_lss rfl rfl) rfl <| rN <| tS <| ATodo.cond_d rfl (fun hc => ?_) (fun hc => ?_)
      · refine have h := iteT hc h; tK <| tS <| ATodo.block <| tSR <| rM rfl rfl <| rA rfl rfl <| rN <| tS <| ATodo.regionM (id := 6) (A := [0, 0, 3, 7, 0, 0, 48, 112, 255]) 9 mixed rfl (by kernel_rfl) (by kernel_rfl) <| AM.qv (q_move rfl) rfl <| AM.qv (q_move rfl) rfl <| bndE h fun v3 e1 h => AM.qv (t_index rfl rfl rfl e1 rfl rfl) rfl <| AM.qv (q_load_rptr_agg rfl rfl rfl) rfl <| AM.qv (q_move rfl) rfl <| AM.qv (q_move rfl) rfl <| bndE h fun v4 e2 h => AM.qv (t_index rfl rfl rfl e2 rfl rfl) rfl <| AM.qv (q_load_rptr_agg rfl rfl rfl) rfl <| AM.qv (t_tne (g := Range.av) (X := v3) (Y := v4) rfl rfl rfl rfl rfl) rfl <| AM.nil <| rN <| ATodo.cond_d rfl (fun hc => ?_) (fun hc => ?_)
        · refine have h := iteT hc h; tSR <| rA rfl rfl <| rN <| ATodo.ret <| have h := outL h hA1; ?_
          obtain rfl := Option.some.inj h
          exact ImpX.here ⟨_, .cons (.tmp _ _ rfl) .nil, rfl⟩
        · refine have h := iteF hc h; tK <| ATodo.blk <| tR <| ARun.qv (q_addw rfl rfl) rfl <| rM rfl rfl <| rN <| ATodo.stop <| ?_
          obtain rfl := Option.some.inj h
          exact hJ1 _ _ rfl <| ImpX.lq [] rfl rfl rfl
      · refine have h := iteF hc h; ATodo.exit rfl <| have h := outL h hA1; tSR <| rA rfl rfl <| rN <| ATodo.ret <| ?_
        obtain rfl := Option.some.inj h
        exact ImpX.here ⟨_, .cons (.tmp _ _ rfl) .nil, rfl⟩

set_option maxHeartbeats 4000000 in
theorem base_Number_c {p0x0 : Str} {p1x0 : Int} {r : Int × Bool} (h : base_Number p0x0 p1x0 = some r) : Pu Tryz.prog 181 [.str p0x0, I p1x0] (.tup [I r.1, .bool r.2]) := by
  unfold base_Number at h
  refine ACall.bodyN Tryz.func181 rfl Tryz.ntmps181 Tryz.results181 rfl rfl ?_
  refine tSR <| rA rfl rfl <| rA rfl rfl <| rN <| tSR <| rM rfl rfl <| r_callp rfl (strings_TrimPrefix_c rfl) (CoL.refl _) rfl <| rA rfl rfl <| rN <| tS <| tS <| ATodo.cut (fun σ' => ∃ (c1 : Bool), base_Number_j1 p0x0 c1 = some r ∧ σ' = ⟨61, [(0, .str p0x0), (6, .str (Lib.trimPrefix p0x0 ([45] : Str))), (36, .bool c1)], []⟩) ?_ ?_
  · refine tR <| rM rfl rfl <| ARun.qv (q_seq rfl rfl) rfl <| rM rfl rfl <| ARun.guard_df rfl rfl rfl (fun hc => ?_) (fun hc => ?_)
    · refine have h := iteF hc h; rM rfl rfl <| rY rfl rfl rfl <| ARun.qv (q_len_str rfl) rfl <| rY rfl rfl rfl <| rM rfl rfl <| rY rfl rfl rfl <| ARun.qv (q_gtr rfl rfl) rfl <| rE rfl rfl rfl <| rM rfl rfl <| ARun.guard_df rfl rfl rfl (fun hc => ?_) (fun hc => ?_)
      · refine have h := iteF hc h; rM rfl rfl <| rY rfl rfl rfl <| bndE h fun c2 e1 h => ARun.qv (t_index_str rfl rfl e1) rfl <| rY rfl rfl rfl <| ARun.qv (q_eql rfl rfl) rfl <| rY rfl rfl rfl <| rM rfl rfl <| ARun.guard_dt rfl rfl rfl (fun hc => ?_) (fun hc => ?_)
        · rw [andTd hc] at h
          refine rM rfl rfl <| rY rfl rfl rfl <| ARun.qv (q_len_str rfl) rfl <| rY rfl rfl rfl <| ARun.qv (q_gtr rfl rfl) rfl <| rY rfl rfl rfl <| rM rfl rfl <| ARun.guard_df rfl rfl rfl (fun hc => ?_) (fun hc => ?_)
          · rw [orFd hc] at h
            exact rM rfl rfl <| rY rfl rfl rfl <| ARun.qv (q_len_str rfl) rfl <| rY rfl rfl rfl <| rM rfl rfl <| rY rfl rfl rfl <| ARun.qv (q_len_str rfl) rfl <| rY rfl rfl rfl <| ARun.qv (q_gtr rfl rfl) rfl <| rY rfl rfl rfl <| rE rfl rfl rfl <| rY rfl rfl rfl <| rT rfl rfl rfl <| rE rfl rfl rfl <| rN <| ATodo.stop <| ImpX.lq [] ⟨decide (((Lib.trimPrefix p0x0 ([45] : Str)).length : Int) < (p0x0.length : Int)), h, rfl⟩ rfl rfl
          · rw [orTd hc] at h
            exact rG rfl rfl rfl rfl <| rG rfl rfl rfl rfl <| rG rfl rfl rfl rfl <| rG rfl rfl rfl rfl <| rY rfl rfl rfl <| rT rfl rfl rfl <| rY rfl rfl rfl <| rT rfl rfl rfl <| rE rfl rfl rfl <| rN <| ATodo.stop <| ImpX.lq [] ⟨true, h, rfl⟩ rfl rfl
        · rw [andFd hc] at h
          exact rG rfl rfl rfl rfl <| rG rfl rfl rfl rfl <| rG rfl rfl rfl rfl <| ARun.guard_und rfl rfl rfl <| ARun.guard_und rfl rfl rfl <| ARun.guard_und rfl rfl rfl <| ARun.guard_und rfl rfl rfl <| ARun.guard_und rfl rfl rfl <| rG rfl rfl rfl rfl <| rY rfl rfl rfl <| rE rfl rfl rfl <| rE rfl rfl rfl <| rN <| ATodo.stop <| ImpX.lq [] ⟨false, h, rfl⟩ rfl rfl
      · exact have h := iteT hc h; rG rfl rfl rfl rfl <| rG rfl rfl rfl rfl <| rG rfl rfl rfl rfl <| ARun.guard_und rfl rfl rfl <| ARun.guard_und rfl rfl rfl <| ARun.guard_und rfl rfl rfl <| ARun.guard_und rfl rfl rfl <| ARun.guard_und rfl rfl rfl <| ARun.guard_und rfl rfl rfl <| ARun.guard_und rfl rfl rfl <| ARun.guard_und rfl rfl rfl <| ARun.guard_und rfl rfl rfl <| ARun.guard_und rfl rfl rfl <| rG rfl rfl rfl rfl <| rT rfl rfl rfl <| rN <| ATodo.stop <| ImpX.lq [] ⟨true, h, rfl⟩ rfl rfl
    · exact have h := iteT hc h; rG rfl rfl rfl rfl <| rG rfl rfl rfl rfl <| rG rfl rfl rfl rfl <| rT rfl rfl rfl <| rM rfl rfl <| rG rfl rfl rfl rfl <| rG rfl rfl rfl rfl <| rG rfl rfl rfl rfl <| rG rfl rfl rfl rfl <| ARun.guard_und rfl rfl rfl <| ARun.guard_und rfl rfl rfl <| ARun.guard_und rfl rfl rfl <| ARun.guard_und rfl rfl rfl <| ARun.guard_und rfl rfl rfl <| ARun.guard_und rfl rfl rfl <| ARun.guard_und rfl rfl rfl <| ARun.guard_und rfl rfl rfl <| ARun.guard_und rfl rfl rfl <| ARun.guard_und rfl rfl rfl <| rG rfl rfl rfl rfl <| rT rfl rfl rfl <| rN <| ATodo.stop <| ImpX.lq [] ⟨true, h, rfl⟩ rfl rfl
  · rintro σ' ⟨c1, h, rfl⟩
    unfold base_Number_j1 at h
    refine ATodo.cond rfl (fun hc => ?_) (fun hc => ?_)
    · refine have h := iteT hc h; tSR <| rA rfl rfl <| rA rfl rfl <| rN <| ATodo.ret <| ?_
      obtain rfl := Option.some.inj h
      exact ImpX.here ⟨_, .cons (.tmp _ _ rfl) (.cons (.tmp _ _ rfl) .nil), rfl⟩
    · refine have h := iteFb hc h; tK <| tS <| tSR <| rM rfl rfl <| ARun.qv (q_len_str rfl) rfl <| rM rfl rfl <| rN <| ATodo.block <| ATodo.loopI (fun x : Int => base_Number_b1 p0x0 x) (fun x σ' => σ' = ⟨61, [(0, .str p0x0), (6, .str (Lib.trimPrefix p0x0 ([45] : Str))), (38, I ((Lib.trimPrefix p0x0 ([45] : Str)).length : Int)), (39, I x)], []⟩) h ?_ ?_
      · exact ImpX.lq [] rfl rfl rfl
      · intro n4 z1 σ' J1 hmk h hJ1 hA1
        obtain rfl := hmk
        replace h : base_Number_b1 p0x0 n4 = some z1 := h
        unfold base_Number_b1 at h
        refine tSR <| ARun.qv (q_lss rfl rfl) rfl <| rN <| tS <| ATodo.cond_d rfl (fun hc => ?_) (fun hc => ?_)
        · refine have h := iteT hc h; tK <| tS <| ATodo.block <| tSR <| rM rfl rfl <| rA rfl rfl <| rN <| tS <| ATodo.cut (fun σ' => ∃ (c5 : Bool), base_Number_j2 n4 c5 = some z1 ∧ σ' = ⟨61, [(0, .str p0x0), (6, .str (Lib.trimPrefix p0x0 ([45] : Str))), (38, I ((Lib.trimPrefix p0x0 ([45] : Str)).length : Int)), (39, I n4), (51, .bool c5)], []⟩) ?_ ?_
          · refine tR <| rM rfl rfl <| rM rfl rfl <| bndE h fun c6 e2 h => ARun.qv (t_index_str rfl rfl e2) rfl <| ARun.qv (q_lss rfl rfl) rfl <| rM rfl rfl <| ARun.guard_df rfl rfl rfl (fun hc => ?_) (fun hc => ?_)
            · exact have h := iteF hc h; rM rfl rfl <| rY rfl rfl rfl <| rM rfl rfl <| rY rfl rfl rfl <| bndE h fun c7 e3 h => ARun.qv (t_index_str rfl rfl e3) rfl <| rY rfl rfl rfl <| ARun.qv (q_gtr rfl rfl) rfl <| rE rfl rfl rfl <| rN <| ATodo.stop <| ImpX.lq [] ⟨decide ((57 : Int) < (c7.toNat : Int)), h, rfl⟩ rfl rfl
            · exact have h := iteT hc h; rG rfl rfl rfl rfl <| rG rfl rfl rfl rfl <| rG rfl rfl rfl rfl <| rT rfl rfl rfl <| rN <| ATodo.stop <| ImpX.lq [] ⟨true, h, rfl⟩ rfl rfl
          · rintro σ' ⟨c5, h, rfl⟩
            unfold base_Number_j2 at h
            refine ATodo.cond rfl (fun hc => ?_) (fun hc => ?_)
            · refine have h := iteT hc h; tSR <| rA rfl rfl <| rA rfl rfl <| rN <| ATodo.ret <| have h := outL h hA1; ?_
              obtain rfl := Option.some.inj h
              exact ImpX.here ⟨_, .cons (.tmp _ _ rfl) (.cons (.tmp _ _ rfl) .nil), rfl⟩
            · refine have h := iteFb hc h; tK <| ATodo.blk <| tR <| ARun.qv (q_addw rfl rfl) rfl <| rM rfl rfl <| rN <| ATodo.stop <| ?_
              obtain rfl := Option.some.inj h
              exact hJ1 _ _ rfl <| ImpX.lq [] rfl rfl rfl
        · refine have h := iteF hc h; ATodo.exit rfl <| have h := outL h hA1; ?_
          unfold base_Number_k3 at h
          refine tSR <| rM rfl rfl <| bndE h fun v8 e4 h => t_callE rfl (strconv_Atoi_c e4) (CoL.refl _) rfl fun e9 e5 => rM rfl rfl <| rX rfl rfl rfl <| rX rfl rfl rfl <| rA rfl rfl <| rA rfl rfl <| rN <| tS <| ATodo.regionM (id := 11) (A := [0, 0, 2, 1, 15]) 5 mixed rfl (by kernel_rfl) (by kernel_rfl) <| AM.qv (q_move rfl) rfl <| AM.qv (q_move rfl) rfl <| AM.qv (q_eqE e5 rfl) rfl <| AM.qv (q_assign rfl) rfl <| AM.qv (q_assign rfl) rfl <| AM.nil <| rN <| ATodo.ret <| ?_
          obtain rfl := Option.some.inj h
          exact ImpX.here ⟨_, .cons (.tmp _ _ rfl) (.cons (.tmp _ _ rfl) .nil), rfl⟩

set_option maxHeartbeats 4000000 in
theorem base_Numbers_c {p0x0 : List Str} {p1x0 : Int} {r : (List Int) × Bool} (h : base_Numbers p0x0 p1x0 = some r) : ACall Tryz.prog 136 [.list 1 (p0x0.map AV.str), I p1x0] [] (T1 (fun d_0 => [(d_0, .arr 1 (r.1.map I))]) (fun d_0 => .tup [.sl 1 d_0 0 r.1.length, .bool r.2])) := by
  unfold base_Numbers at h
  refine ACall.lessH ?_
  refine ACall.bodyN Tryz.func136 rfl Tryz.ntmps136 Tryz.results136 rfl rfl ?_
  refine tSR <| rA rfl rfl <| rA rfl rfl <| rN <| tSR <| rA rfl rfl <| rN <| tS <| tSR <| rM rfl rfl <| ARun.qv (t_len rfl) rfl <| rM rfl rfl <| rN <| ATodo.block <| ATodo.loopI (fun x : (List Int) × Int => base_Numbers_b1 p0x0 p1x0 x.1 x.2) (fun x σ' => ∃ (b4 : Bk), σ' = ⟨31, [(1, I p1x0), (6, .sl 1 b4 0 x.1.length), (11, .list 1 (p0x0.map AV.str)), (12, I (p0x0.length : Int)), (13, I x.2)], [(b4, .arr 1 (x.1.map I))]⟩) h ?_ ?_
  · exact ImpX.arr (s := 6) 1 rfl fun b7 => ImpX.lq [0] ⟨b7, rfl⟩ rfl rfl
  · intro x z1 σ' J1 hmk h hJ1 hA1
    obtain ⟨l5, n6⟩ := x
    obtain ⟨b4, rfl⟩ := hmk
    replace h : base_Numbers_b1 p0x0 p1x0 l5 n6 = some z1 := h
    unfold base_Numbers_b1 at h
    refine tSR <| ARun.qv (q_lss rfl rfl) rfl <| rN <| tS <| ATodo.cond_d rfl (fun hc => ?_) (fun hc => ?_)
    · refine have h := iteT hc h; tK <| tS <| ATodo.block <| tSR <| bndE h fun v8 e1 h => ARun.qv (t_index rfl rfl rfl e1 rfl rfl) rfl <| ARun.qv (q_load_rptr rfl rfl rfl) rfl <| rA rfl rfl <| rN <| tSR <| rM rfl rfl <| rM rfl rfl <| bndE h fun v9 e2 h => r_callp rfl (base_Number_c e2) (CoL.refl _) rfl <| rM rfl rfl <| rX rfl rfl rfl <| rX rfl rfl rfl <| rA rfl rfl <| rA rfl rfl <| rN <| tS <| tSR <| rM rfl rfl <| ARun.qv (q_not rfl) rfl <| rN <| ATodo.cond rfl (fun hc => ?_) (fun hc => ?_)
      · refine have h := iteT hc h; tSR <| rA rfl rfl <| rA rfl rfl <| rN <| ATodo.ret <| have h := outL h hA1; ?_
        obtain rfl := Option.some.inj h
        exact ImpX.arr (s := 4) 1 rfl fun b10 => ImpX.here ⟨_, .cons (.tmp _ _ rfl) (.cons (.tmp _ _ rfl) .nil), _, .cons .p0 .nil, ⟨b10, rfl, rfl⟩⟩
      · refine have h := iteFb hc h; tK <| tR <| rM rfl rfl <| rM rfl rfl <| n_buildSliceL (xs := ([v9.1] : List Int).map I) rfl rfl rfl rfl rfl rfl <| bndE h fun l11 e3 h => t_append (g := I) rfl rfl rfl rfl rfl rfl rfl rfl (.list _) e3 (fun _ => .p0) rfl fun b12 => rA rfl rfl <| rN <| ATodo.blk <| tR <| ARun.qv (q_addw rfl rfl) rfl <| rM rfl rfl <| rN <| ATodo.stop <| ?_
        obtain rfl := Option.some.inj h
        exact hJ1 _ _ rfl <| ImpX.lq [0] ⟨b12, rfl⟩ rfl rfl
    · refine have h := iteF hc h; ATodo.exit rfl <| have h := outL h hA1; tSR <| rM rfl rfl <| rA rfl rfl <| rA rfl rfl <| rN <| ATodo.ret <| ?_
      obtain rfl := Option.some.inj h
      exact ImpX.here ⟨_, .cons (.tmp _ _ rfl) (.cons (.tmp _ _ rfl) .nil), _, .cons .p0 .nil, ⟨b4, rfl, rfl⟩⟩

set_option maxHeartbeats 4000000 in
theorem campaign_ParseVersion_c {p0x0 : Str} {r : Version × Int} (h : campaign_ParseVersion p0x0 = some r) : Pu Tryz.prog 76 [.str p0x0] (.tup [.agg [I r.1.Major, I r.1.Minor, I r.1.Patch], I r.2]) := by
  unfold campaign_ParseVersion at h
  refine ACall.bodyN Tryz.func76 rfl Tryz.ntmps76 Tryz.results76 rfl rfl ?_
  refine tSR <| n_alloc rfl rfl rfl rfl fun b1 => rA rfl rfl <| rN <| tSR <| rM rfl rfl <| bndE h fun v2 e1 h => t_call1 rfl (strings_Split_c e1) (CoL.refl _) .nil (fun _ => rfl) rfl fun b3 => bndE h fun v4 e2 h => t_callL1 rfl (base_Numbers_c e2) .nil (.cons (CoB.arrT .p0) (.cons (.co (.refl _)) .nil)) (fun _ => rfl) (fun _ => rfl) (fun _ => (.cons (NoS.arrT (fun _ => rfl)) .nil)) rfl fun b5 => rM rfl rfl <| rX rfl rfl rfl <| rX rfl rfl rfl <| rA rfl rfl <| rA rfl rfl <| rN <| tS <| tS <| ATodo.cut (fun σ' => ∃ (c6 : Bool), campaign_ParseVersion_j1 v4 c6 = some r ∧ σ' = ⟨36, [(2, .ptr b1 0), (4, .sl 1 b5 0 v4.1.length), (19, .bool c6)], [(b1, .cells [I (0 : Int), I (0 : Int), I (0 : Int)]), (b5, .arr 1 (v4.1.map I))]⟩) ?_ ?_
  · refine tR <| rM rfl rfl <| ARun.qv (q_not rfl) rfl <| rM rfl rfl <| ARun.guard rfl rfl rfl (fun hc => ?_) (fun hc => ?_)
    · rw [orFb hc] at h
      exact rM rfl rfl <| rY rfl rfl rfl <| ARun.qv (t_len_sl rfl) rfl <| rY rfl rfl rfl <| ARun.qv (q_neq rfl rfl) rfl <| rE rfl rfl rfl <| rN <| ATodo.stop <| ImpX.lq [2, 0] ⟨decide ((v4.1.length : Int) ≠ (3 : Int)), h, rfl⟩ rfl rfl
    · rw [orTb hc] at h
      exact rG rfl rfl rfl rfl <| rG rfl rfl rfl rfl <| rT rfl rfl rfl <| rN <| ATodo.stop <| ImpX.lq [2, 0] ⟨true, h, rfl⟩ rfl rfl
  · rintro σ' ⟨c6, h, rfl⟩
    unfold campaign_ParseVersion_j1 at h
    refine ATodo.cond rfl (fun hc => ?_) (fun hc => ?_)
    · refine have h := iteT hc h; tSR <| ARun.qv (n_build rfl rfl rfl rfl rfl) rfl <| n_store_ptr rfl rfl rfl rfl .p0 rfl rfl <| rA rfl rfl <| rN <| ATodo.ret <| ?_
      obtain rfl := Option.some.inj h
      exact ImpX.here ⟨_, .cons (.all _ _ _ _ _ _ rfl .p0 TUnder.h TInfo.h rfl rfl) (.cons (.tmp _ _ rfl) .nil), rfl⟩
    · refine have h := iteFb hc h; tK <| tS <| bndE h fun v7 e3 h => bndE h fun v8 e4 h => bndE h fun v9 e5 h => ATodo.regionT (id := 4) (A := [0, 1, 3, 0, 8, 24, 0, 64, 192, 511, 0, 2047]) (H0 := []) (HH := fun β => [((β 10), .cells [I (0 : Int), I (0 : Int), I (0 : Int)]), (b1, .cells [I (0 : Int), I (0 : Int), I (0 : Int)]), (b5, .arr 1 (v4.1.map I))]) 11 mixed rfl (by kernel_rfl) (by kernel_rfl) [⟨some 10, none, [], fun b => (b, .cells [I (0 : Int), I (0 : Int), I (0 : Int)]), none⟩] [10] rfl (by kernel_rfl) rfl .nil (fun _ => rfl) <| AT.am 10 rfl rfl <| AM.qv (q_move rfl) rfl <| AM.qv (t_index_sl rfl rfl rfl e3) rfl <| AM.qv (t_load_aptr (g := I) rfl rfl (.inl .p1) e3 rfl) rfl <| AM.qv (q_move rfl) rfl <| AM.qv (t_index_sl rfl rfl rfl e4) rfl <| AM.qv (t_load_aptr (g := I) rfl rfl (.inl .p1) e4 rfl) rfl <| AM.qv (q_move rfl) rfl <| AM.qv (t_index_sl rfl rfl rfl e5) rfl <| AM.qv (t_load_aptr (g := I) rfl rfl (.inl .p1) e5 rfl) rfl <| AM.qv (n_build rfl rfl rfl rfl rfl) rfl <| AM.nil <| AT.runD (V := fun b => .ptr b 0) (Ti := []) (Pi := fun b => [(b, .cells [I (0 : Int), I (0 : Int), I (0 : Int)])]) (fun _ => rfl) (fun _ => rfl) (fun _ _ => rfl) rfl (fun _ => rfl) rfl rfl rfl ?_ ?_
      · exact n_alloc rfl rfl rfl rfl fun b10 => ARun.nil ⟨b10, _, rfl, rfl⟩
      refine AT.nilN (fun _ => rfl) fun β => ?_
      generalize β 10 = b10
      clear β
      refine n_store_ptr rfl rfl rfl rfl .p0 rfl rfl <| rN <| tS <| tSR <| ARun.qv (q_load_ptr_all rfl rfl .p0 rfl) rfl <| r_callp rfl (base_Version_c (rfl : base_Version (⟨v7, v8, v9⟩ : Version) = _)) (CoL.refl _) rfl <| ARun.qv (q_not rfl) rfl <| rN <| ATodo.cond rfl (fun hc => ?_) (fun hc => ?_)
      · refine have h := iteT hc h; tSR <| ARun.qv (n_build rfl rfl rfl rfl rfl) rfl <| n_store_ptr rfl rfl rfl rfl .p1 rfl rfl <| rA rfl rfl <| rN <| ATodo.ret <| ?_
        obtain rfl := Option.some.inj h
        exact ImpX.here ⟨_, .cons (.all _ _ _ _ _ _ rfl .p1 TUnder.h TInfo.h rfl rfl) (.cons (.tmp _ _ rfl) .nil), rfl⟩
      · refine have h := iteFb hc h; tK <| tSR <| ARun.qv (q_load_ptr_all rfl rfl .p0 rfl) rfl <| n_store_ptr rfl rfl rfl rfl .p1 rfl rfl <| rA rfl rfl <| rN <| ATodo.ret <| ?_
        obtain rfl := Option.some.inj h
        exact ImpX.here ⟨_, .cons (.all _ _ _ _ _ _ rfl .p1 TUnder.h TInfo.h rfl rfl) (.cons (.tmp _ _ rfl) .nil), rfl⟩

set_option maxHeartbeats 4000000 in
theorem L_versioned_c {r : Bool} (h : L_versioned = some r) : Pu Tryz.prog 21 [] (.bool r) := by
  unfold L_versioned at h
  refine ACall.bodyN Tryz.func21 rfl Tryz.ntmps21 Tryz.results21 rfl rfl ?_
  refine tSR <| rA rfl rfl <| rN <| tSR <| bndE h fun v1 e1 h => r_callp rfl (campaign_ParseVersion_c e1) (CoL.refl _) rfl <| rM rfl rfl <| rX rfl rfl rfl <| rX rfl rfl rfl <| n_alloc rfl rfl rfl rfl fun b2 => n_store_ptr rfl rfl rfl rfl .p0 rfl rfl <| rA rfl rfl <| rN <| tS <| ATodo.cut (fun σ' => ∃ (c3 : Bool), L_versioned_j1 c3 = some r ∧ σ' = ⟨14, [(0, .bool c3)], []⟩) ?_ ?_
  · refine tR <| rM rfl rfl <| ARun.qv (q_eql rfl rfl) rfl <| rM rfl rfl <| ARun.guard_dt rfl rfl rfl (fun hc => ?_) (fun hc => ?_)
    · rw [andTd hc] at h
      exact ARun.qv (q_load_ptr_all rfl rfl .p0 rfl) rfl <| rY rfl rfl rfl <| ARun.qv (n_build rfl rfl rfl rfl rfl) rfl <| rY rfl rfl rfl <| ARun.qv (t_teq (g := Version.av) (X := v1.1) (Y := (⟨(1 : Int), (2 : Int), (3 : Int)⟩ : Version)) rfl rfl rfl rfl rfl) rfl <| rT rfl rfl rfl <| rA rfl rfl <| rN <| ATodo.stop <| ImpX.lq [] ⟨decide (v1.1 = (⟨(1 : Int), (2 : Int), (3 : Int)⟩ : Version)), h, rfl⟩ rfl rfl
    · rw [andFd hc] at h
      exact rG rfl rfl rfl rfl <| rG rfl rfl rfl rfl <| rE rfl rfl rfl <| rA rfl rfl <| rN <| ATodo.stop <| ImpX.lq [] ⟨false, h, rfl⟩ rfl rfl
  · rintro σ' ⟨c3, h, rfl⟩
    unfold L_versioned_j1 at h
    refine ATodo.ret <| ?_
    obtain rfl := Option.some.inj h
    exact ImpX.here ⟨_, .cons (.tmp _ _ rfl) .nil, rfl⟩

set_option maxHeartbeats 4000000 in
theorem L_WaysFound_c {p0x0 : List Int} {r : Bool} (h : L_WaysFound p0x0 = some r) : Pu Tryz.prog 5 [.list 1 (p0x0.map I)] (.bool r) := by
  unfold L_WaysFound at h
  refine ACall.bodyN Tryz.func5 rfl Tryz.ntmps5 Tryz.results5 rfl rfl ?_
  refine tSR <| rA rfl rfl <| rN <| tSR <| rM rfl rfl <| ARun.qv (n_build rfl rfl rfl rfl rfl) rfl <| n_box rfl rfl rfl rfl fun b1 => rA rfl rfl <| rN <| tSR <| rM rfl rfl <| bndE h fun v2 e1 h => t_call1 rfl (Stream_Images_c e1) (CoL.refl _) (.cons .p0 .nil) (fun _ => rfl) rfl fun b3 => rM rfl rfl <| n_buildSliceL (xs := ([([109] : Str), ([109] : Str), ([109] : Str), ([110] : Str), ([120] : Str), ([] : Str)]).map AV.str) rfl rfl rfl rfl rfl rfl <| bndE h fun v4 e2 h => t_call0 rfl (Stream_Some_c e2) (CoL.refl _) (.cons .p0 .nil) rfl rfl <| rM rfl rfl <| bndE h fun v5 e3 h => t_call0 rfl (Stream_Version_c e3) (CoL.refl _) (.cons .p0 .nil) rfl rfl <| rM rfl rfl <| bndE h fun v6 e4 h => t_call0 rfl (Stream_Version_c e4) (CoL.refl _) (.cons .p0 .nil) rfl rfl <| n_alloc rfl rfl rfl rfl fun b7 => n_alloc rfl rfl rfl rfl fun b8 => rA rfl rfl <| rA rfl rfl <| n_store_ptr rfl rfl rfl rfl .p1 rfl rfl <| n_store_ptr rfl rfl rfl rfl .p0 rfl rfl <| rN <| tS <| tSR <| rM rfl rfl <| bndE h fun v9 e5 h => t_call0 rfl (Stream_Flip_c e5) (CoL.refl _) (.cons .p2 .nil) rfl rfl <| rN <| ATodo.cut (fun σ' => ∃ (n10 : Int) (n11 : Int) (n12 : Int) (n13 : Int) (n14 : Int) (n15 : Int), L_WaysFound_j1 v2 v4 n10 n11 n12 n13 n14 n15 = some r ∧ σ' = ⟨150, [(4, .sl 6 b3 0 v2.1.length), (5, .str v4.1), (6, .ptr b7 0), (7, .ptr b8 0)], [(b3, .arr 6 (v2.1.map Image.av)), (b7, .cells [I n10, I n11, I n12]), (b8, .cells [I n13, I n14, I n15])]⟩) ?_ ?_
  · refine ATodo.cond rfl (fun hc => ?_) (fun hc => ?_)
    · exact have h := iteT hc h; tR <| rM rfl rfl <| bndE h fun v16 e6 h => t_call0 rfl (Stream_Range_c e6) (CoL.refl _) (.cons .p0 .nil) rfl rfl <| ARun.qv (n_build rfl rfl rfl rfl rfl) rfl <| rM rfl rfl <| bndE h fun v17 e7 h => t_call0 rfl (Stream_Range_c e7) (CoL.refl _) (.cons .p0 .nil) rfl rfl <| rM rfl rfl <| n_buildSliceL (xs := ([(0 : Int), (5 : Int)]).map I) rfl rfl rfl rfl rfl rfl <| bndE h fun v18 e8 h => t_call0 rfl (Stream_Pick_c e8) (CoL.refl _) (.cons .p0 .nil) rfl rfl <| ARun.qv (n_build rfl rfl rfl rfl rfl) rfl <| n_store_ptr rfl rfl rfl rfl .p2 rfl rfl <| n_store_ptr rfl rfl rfl rfl .p1 rfl rfl <| rN <| ATodo.stop <| ImpX.lq [3, 2, 1] ⟨v16.1, (0 : Int), (0 : Int), v17.1, v18.1, (0 : Int), h, rfl⟩ rfl rfl
    · exact have h := iteFb hc h; tK <| ATodo.stop <| ImpX.lq [3, 2, 1] ⟨v5.1.Major, v5.1.Minor, v5.1.Patch, v6.1.Major, v6.1.Minor, v6.1.Patch, h, rfl⟩ rfl rfl
  · rintro σ' ⟨n10, n11, n12, n13, n14, n15, h, rfl⟩
    unfold L_WaysFound_j1 at h
    refine tSR <| rM rfl rfl <| rM rfl rfl <| ARun.qv (q_load_ptr_all rfl rfl .p1 rfl) rfl <| bndE h fun v19 e9 h => t_callL1 rfl (campaign_Next_c e9) .nil (.cons (CoB.arrT .p0) (.cons (.co (.refl _)) (.cons (.co (.refl _)) .nil))) (fun _ => rfl) (fun _ => rfl) (fun _ => (.cons (NoS.arrT (fun _ => rfl)) .nil)) rfl fun b20 => rM rfl rfl <| rX rfl rfl rfl <| rX rfl rfl rfl <| rA rfl rfl <| rA rfl rfl <| rN <| tSR <| rM rfl rfl <| rM rfl rfl <| ARun.qv (q_load_ptr_all rfl rfl .p2 rfl) rfl <| ARun.qv (q_load_ptr_all rfl rfl .p3 rfl) rfl <| bndE h fun v21 e10 h => t_callL1 rfl (campaign_Way_c e10) .nil (.cons (CoB.arrT .p1) (.cons (.co (.refl _)) (.cons (.co (.refl _)) (.cons (.co (.refl _)) .nil)))) (fun _ => rfl) (fun _ => rfl) (fun _ => (.cons (NoS.arrT (fun _ => rfl)) .nil)) rfl fun b22 => rM rfl rfl <| rX rfl rfl rfl <| rX rfl rfl rfl <| rA rfl rfl <| rA rfl rfl <| rN <| tSR <| rM rfl rfl <| rM rfl rfl <| ARun.qv (q_load_ptr_all rfl rfl .p4 rfl) rfl <| bndE h fun v23 e11 h => t_callL1 rfl (campaign_Reach_c e11) .nil (.cons (CoB.arrT .p2) (.cons (.co (.refl _)) (.cons (.co (.refl _)) .nil))) (fun _ => rfl) (fun _ => rfl) (fun _ => (.cons (NoS.arrT (fun _ => rfl)) .nil)) rfl fun b24 => rM rfl rfl <| rX rfl rfl rfl <| rX rfl rfl rfl <| rA rfl rfl <| rA rfl rfl <| rN <| tSR <| rM rfl rfl <| bndE h fun v25 e12 h => r_callpB rfl (Q_ImagesFault_c e12) (.cons (CoB.arrT .p3) .nil) rfl rfl <| rM rfl rfl <| bndE h fun v26 e13 h => r_callp rfl (Q_Key_c e13) (CoL.refl _) rfl <| ARun.qv (q_not rfl) rfl <| r_callp rfl (L_when_c rfl) (CoL.refl _) rfl <| n_buildSliceL (xs := ([v25, (L_when (!v26) (5 : Int))]).map I) rfl rfl rfl rfl rfl rfl <| bndE h fun v27 e14 h => r_callp rfl (L_errs_c e14) (CoL.refl _) rfl <| rA rfl rfl <| rN <| tS <| ATodo.regionM (id := 9) (A := [0, 0, 2, 7, 15, 0, 0, 95, 0, 479, 1023, 2047, 0, 0, 12287, 32767, 65535, 131071, 262143, 524287]) 20 mixed rfl (by kernel_rfl) (by kernel_rfl) <| AM.qv (q_move rfl) rfl <| AM.qv (q_load_ptr_all rfl rfl .p4 rfl) rfl <| AM.callp rfl (Q_VersionFault_c (rfl : Q_VersionFault (⟨n10, n11, n12⟩ : Version) = _)) (CoL.refl _) rfl <| AM.buildSliceL (xs := ([v27, (Q_VersionFault (⟨n10, n11, n12⟩ : Version))]).map I) rfl rfl rfl rfl rfl rfl <| bndE h fun v28 e15 h => AM.callp rfl (L_errs_c e15) (CoL.refl _) rfl <| AM.qv (q_move rfl) rfl <| AM.qv (q_load_ptr_all rfl rfl .p4 rfl) rfl <| AM.callp rfl (Q_VersionFault_c (rfl : Q_VersionFault (⟨n10, n11, n12⟩ : Version) = _)) (CoL.refl _) rfl <| AM.qv (q_load_ptr_all rfl rfl .p5 rfl) rfl <| AM.callp rfl (Q_VersionFault_c (rfl : Q_VersionFault (⟨n13, n14, n15⟩ : Version) = _)) (CoL.refl _) rfl <| AM.buildSliceL (xs := ([v27, (Q_VersionFault (⟨n10, n11, n12⟩ : Version)), (Q_VersionFault (⟨n13, n14, n15⟩ : Version))]).map I) rfl rfl rfl rfl rfl rfl <| bndE h fun v29 e16 h => AM.callp rfl (L_errs_c e16) (CoL.refl _) rfl <| AM.qv (q_move rfl) rfl <| AM.qv (q_load_ptr_all rfl rfl .p5 rfl) rfl <| AM.callp rfl (Q_VersionFault_c (rfl : Q_VersionFault (⟨n13, n14, n15⟩ : Version) = _)) (CoL.refl _) rfl <| AM.buildSliceL (xs := ([v27, (Q_VersionFault (⟨n13, n14, n15⟩ : Version))]).map I) rfl rfl rfl rfl rfl rfl <| bndE h fun v30 e17 h => AM.callp rfl (L_errs_c e17) (CoL.refl _) rfl <| AM.qv (q_assign rfl) rfl <| AM.qv (q_assign rfl) rfl <| AM.qv (q_assign rfl) rfl <| AM.nil <| rN <| tSR <| rA rfl rfl <| rA rfl rfl <| rN <| tSR <| rA rfl rfl <| rN <| tS <| tSR <| rM rfl rfl <| ARun.qv (q_eql rfl rfl) rfl <| rN <| ATodo.cut (fun σ' => ∃ (b31 : Bk) (l32 : List Version), L_WaysFound_j2 v2 v4 n10 n11 n12 n13 n14 n15 v19 v21 v23 v28 v29 v30 l32 = some r ∧ σ' = ⟨150, [(4, .sl 6 b3 0 v2.1.length), (5, .str v4.1), (6, .ptr b7 0), (7, .ptr b8 0), (8, .sl 3 b20 0 v19.1.length), (9, I v19.2), (10, .sl 3 b22 0 v21.1.length), (11, I v21.2), (12, .sl 6 b24 0 v23.1.length), (13, I v23.2), (15, I v28), (16, I v29), (17, I v30), (18, .sl 3 b31 0 l32.length), (19, .nil), (20, .nil)], [(b3, .arr 6 (v2.1.map Image.av)), (b7, .cells [I n10, I n11, I n12]), (b8, .cells [I n13, I n14, I n15]), (b20, .arr 3 (v19.1.map Version.av)), (b22, .arr 3 (v21.1.map Version.av)), (b24, .arr 6 (v23.1.map Range.av)), (b31, .arr 3 (l32.map Version.av))]⟩) ?_ ?_
    · refine ATodo.cond_d rfl (fun hc => ?_) (fun hc => ?_)
      · exact have h := iteT hc h; tR <| rM rfl rfl <| rM rfl rfl <| ARun.qv (q_load_ptr_all rfl rfl .p4 rfl) rfl <| bndE h fun v33 e18 h => t_callL1 rfl (Q_NextOf_c e18) .nil (.cons (CoB.arrT .p3) (.cons (.co (.refl _)) (.cons (.co (.refl _)) .nil))) (fun _ => rfl) (fun _ => rfl) (fun _ => (.cons (NoS.arrT (fun _ => rfl)) .nil)) rfl fun b34 => rA rfl rfl <| rN <| ATodo.stop <| ImpX.lq [4, 4, 4, 3, 2, 1, 0] ⟨b34, v33, h, rfl⟩ rfl rfl
      · exact have h := iteF hc h; tK <| ATodo.stop <| ImpX.arr (s := 18) 3 rfl fun b35 => ImpX.lq [4, 4, 4, 3, 2, 1, 0] ⟨b35, [], h, rfl⟩ rfl rfl
    · rintro σ' ⟨b31, l32, h, rfl⟩
      unfold L_WaysFound_j2 at h
      refine tS <| tSR <| rM rfl rfl <| ARun.qv (q_eql rfl rfl) rfl <| rN <| ATodo.cut (fun σ' => ∃ (n36 : Int) (l37 : List Version), L_WaysFound_j3 v2 v4 n13 n14 n15 v19 v21 v23 v28 v30 l32 n36 l37 = some r ∧ σ' = ⟨150, [(4, .sl 6 b3 0 v2.1.length), (5, .str v4.1), (7, .ptr b8 0), (8, .sl 3 b20 0 v19.1.length), (9, I v19.2), (10, .sl 3 b22 0 v21.1.length), (11, I v21.2), (12, .sl 6 b24 0 v23.1.length), (13, I v23.2), (15, I v28), (16, I n36), (17, I v30), (18, .sl 3 b31 0 l32.length), (19, .list 3 (l37.map Version.av)), (20, .nil)], [(b3, .fro 6 (v2.1.map Image.av)), (b8, .cells [I n13, I n14, I n15]), (b20, .arr 3 (v19.1.map Version.av)), (b22, .arr 3 (v21.1.map Version.av)), (b24, .arr 6 (v23.1.map Range.av)), (b31, .arr 3 (l32.map Version.av))]⟩) ?_ ?_
      · refine ATodo.cond_d rfl (fun hc => ?_) (fun hc => ?_)
        · exact have h := iteT hc h; tSR <| rM rfl rfl <| rM rfl rfl <| ARun.qv (q_load_ptr_all rfl rfl .p1 rfl) rfl <| ARun.qv (q_load_ptr_all rfl rfl .p2 rfl) rfl <| bndE h fun v38 e19 h => ARun.ghost <| ImpX.freeze .p0 <| ImpX.here <| r_callp rfl (Q_WayOf_c e19) (.cons (Co.froT .p0) (.cons (.refl _) (.cons (.refl _) (.cons (.refl _) .nil)))) rfl <| rM rfl rfl <| rX rfl rfl rfl <| rX rfl rfl rfl <| rA rfl rfl <| rA rfl rfl <| rN <| tR <| rM rfl rfl <| rM rfl rfl <| ARun.qv (q_not rfl) rfl <| r_callp rfl (L_when_c rfl) (CoL.refl _) rfl <| rA rfl rfl <| rA rfl rfl <| rN <| ATodo.stop <| ImpX.lq [0, 1, 1, 1, 1, 1] ⟨(L_when (!v38.2) (8 : Int)), v38.1, h, rfl⟩ rfl rfl
        · exact have h := iteF hc h; tK <| ATodo.stop <| ImpX.freeze .p0 <| ImpX.co (s := 19) rfl (.nil 3) <| ImpX.lq [0, 1, 1, 1, 1, 1] ⟨v29, [], h, rfl⟩ rfl rfl
      · rintro σ' ⟨n36, l37, h, rfl⟩
        unfold L_WaysFound_j3 at h
        refine tS <| tSR <| rM rfl rfl <| ARun.qv (q_eql rfl rfl) rfl <| rN <| ATodo.cut (fun σ' => ∃ (b39 : Bk) (l40 : List Range), L_WaysFound_j4 v19 v21 v23 v28 v30 l32 n36 l37 l40 = some r ∧ σ' = ⟨150, [(8, .sl 3 b20 0 v19.1.length), (9, I v19.2), (10, .sl 3 b22 0 v21.1.length), (11, I v21.2), (12, .sl 6 b24 0 v23.1.length), (13, I v23.2), (15, I v28), (16, I n36), (17, I v30), (18, .sl 3 b31 0 l32.length), (19, .list 3 (l37.map Version.av)), (20, .sl 6 b39 0 l40.length)], [(b20, .arr 3 (v19.1.map Version.av)), (b22, .arr 3 (v21.1.map Version.av)), (b24, .arr 6 (v23.1.map Range.av)), (b31, .arr 3 (l32.map Version.av)), (b39, .arr 6 (l40.map Range.av))]⟩) ?_ ?_
        · refine ATodo.cond_d rfl (fun hc => ?_) (fun hc => ?_)
          · exact have h := iteT hc h; tR <| rM rfl rfl <| rM rfl rfl <| ARun.qv (q_load_ptr_all rfl rfl .p1 rfl) rfl <| bndE h fun v41 e20 h => t_call1 rfl (Q_ReachOf_c e20) (.cons (Co.froT .p0) (.cons (.refl _) (.cons (.refl _) .nil))) .nil (fun _ => rfl) rfl fun b42 => rA rfl rfl <| rN <| ATodo.stop <| ImpX.lq [3, 3, 3, 3, 0] ⟨b42, v41, h, rfl⟩ rfl rfl
          · exact have h := iteF hc h; tK <| ATodo.stop <| ImpX.arr (s := 20) 6 rfl fun b43 => ImpX.lq [3, 3, 3, 3, 0] ⟨b43, [], h, rfl⟩ rfl rfl
        · rintro σ' ⟨b39, l40, h, rfl⟩
          unfold L_WaysFound_j4 at h
          refine tS <| ATodo.cut (fun σ' => ∃ (c44 : Bool), L_WaysFound_j5 c44 = some r ∧ σ' = ⟨150, [(2, .bool c44)], []⟩) ?_ ?_
          · refine tR <| rM rfl rfl <| rM rfl rfl <| ARun.qv (q_eql rfl rfl) rfl <| rM rfl rfl <| ARun.guard_dt rfl rfl rfl (fun hc => ?_) (fun hc => ?_)
            · refine have h := iteT hc h; rM rfl rfl <| rY rfl rfl rfl <| rM rfl rfl <| rY rfl rfl rfl <| bndE h fun v45 e21 h => r_callpB rfl (slices_Equal_Version_Version_c e21) (.cons (CoB.arrT .p0) (.cons (CoB.arrT .p3) .nil)) rfl rfl <| rT rfl rfl rfl <| rM rfl rfl <| ARun.guard rfl rfl rfl (fun hc => ?_) (fun hc => ?_)
              · refine have h := iteT hc h; rM rfl rfl <| rY rfl rfl rfl <| rM rfl rfl <| rY rfl rfl rfl <| ARun.qv (q_eql rfl rfl) rfl <| rT rfl rfl rfl <| rM rfl rfl <| ARun.guard_dt rfl rfl rfl (fun hc => ?_) (fun hc => ?_)
                · refine have h := iteT hc h; rM rfl rfl <| rY rfl rfl rfl <| rM rfl rfl <| rY rfl rfl rfl <| bndE h fun v46 e22 h => r_callpB rfl (slices_Equal_Version_Version_c e22) (.cons (CoB.arrT .p1) (.cons (.co (.refl _)) .nil)) rfl rfl <| rT rfl rfl rfl <| rM rfl rfl <| ARun.guard rfl rfl rfl (fun hc => ?_) (fun hc => ?_)
                  · refine have h := iteT hc h; rM rfl rfl <| rY rfl rfl rfl <| rM rfl rfl <| rY rfl rfl rfl <| ARun.qv (q_eql rfl rfl) rfl <| rT rfl rfl rfl <| rM rfl rfl <| ARun.guard_dt rfl rfl rfl (fun hc => ?_) (fun hc => ?_)
                    · refine have h := iteT hc h; rM rfl rfl <| rY rfl rfl rfl <| rM rfl rfl <| rY rfl rfl rfl <| bndE h fun v47 e23 h => r_callpB rfl (slices_Equal_Range_Range_c e23) (.cons (CoB.arrT .p2) (.cons (CoB.arrT .p4) .nil)) rfl rfl <| rT rfl rfl rfl <| rM rfl rfl <| ARun.guard rfl rfl rfl (fun hc => ?_) (fun hc => ?_)
                      · exact have h := iteT hc h; bndE h fun v48 e24 h => r_callp rfl (L_versioned_c e24) (CoL.refl _) rfl <| rT rfl rfl rfl <| rA rfl rfl <| rN <| ATodo.stop <| ImpX.lq [] ⟨v48, h, rfl⟩ rfl rfl
                      · exact have h := iteFb hc h; rE rfl rfl rfl <| rA rfl rfl <| rN <| ATodo.stop <| ImpX.lq [] ⟨false, h, rfl⟩ rfl rfl
                    · exact have h := iteF hc h; rG rfl rfl rfl rfl <| rG rfl rfl rfl rfl <| rE rfl rfl rfl <| rM rfl rfl <| rG rfl rfl rfl rfl <| rE rfl rfl rfl <| rA rfl rfl <| rN <| ATodo.stop <| ImpX.lq [] ⟨false, h, rfl⟩ rfl rfl
                  · exact have h := iteFb hc h; rG rfl rfl rfl rfl <| rG rfl rfl rfl rfl <| rE rfl rfl rfl <| rM rfl rfl <| rG rfl rfl rfl rfl <| rG rfl rfl rfl rfl <| rG rfl rfl rfl rfl <| rE rfl rfl rfl <| rM rfl rfl <| rG rfl rfl rfl rfl <| rE rfl rfl rfl <| rA rfl rfl <| rN <| ATodo.stop <| ImpX.lq [] ⟨false, h, rfl⟩ rfl rfl
                · exact have h := iteF hc h; rG rfl rfl rfl rfl <| rG rfl rfl rfl rfl <| rE rfl rfl rfl <| rM rfl rfl <| rG rfl rfl rfl rfl <| rG rfl rfl rfl rfl <| rG rfl rfl rfl rfl <| rE rfl rfl rfl <| rM rfl rfl <| rG rfl rfl rfl rfl <| rG rfl rfl rfl rfl <| rG rfl rfl rfl rfl <| rE rfl rfl rfl <| rM rfl rfl <| rG rfl rfl rfl rfl <| rE rfl rfl rfl <| rA rfl rfl <| rN <| ATodo.stop <| ImpX.lq [] ⟨false, h, rfl⟩ rfl rfl
              · exact have h := iteFb hc h; rG rfl rfl rfl rfl <| rG rfl rfl rfl rfl <| rE rfl rfl rfl <| rM rfl rfl <| rG rfl rfl rfl rfl <| rG rfl rfl rfl rfl <| rG rfl rfl rfl rfl <| rE rfl rfl rfl <| rM rfl rfl <| rG rfl rfl rfl rfl <| rG rfl rfl rfl rfl <| rG rfl rfl rfl rfl <| rE rfl rfl rfl <| rM rfl rfl <| rG rfl rfl rfl rfl <| rG rfl rfl rfl rfl <| rG rfl rfl rfl rfl <| rE rfl rfl rfl <| rM rfl rfl <| rG rfl rfl rfl rfl <| rE rfl rfl rfl <| rA rfl rfl <| rN <| ATodo.stop <| ImpX.lq [] ⟨false, h, rfl⟩ rfl rfl
            · exact have h := iteF hc h; rG rfl rfl rfl rfl <| rG rfl rfl rfl rfl <| rE rfl rfl rfl <| rM rfl rfl <| rG rfl rfl rfl rfl <| rG rfl rfl rfl rfl <| rG rfl rfl rfl rfl <| rE rfl rfl rfl <| rM rfl rfl <| rG rfl rfl rfl rfl <| rG rfl rfl rfl rfl <| rG rfl rfl rfl rfl <| rE rfl rfl rfl <| rM rfl rfl <| rG rfl rfl rfl rfl <| rG rfl rfl rfl rfl <| rG rfl rfl rfl rfl <| rE rfl rfl rfl <| rM rfl rfl <| rG rfl rfl rfl rfl <| rG rfl rfl rfl rfl <| rG rfl rfl rfl rfl <| rE rfl rfl rfl <| rM rfl rfl <| rG rfl rfl rfl rfl <| rE rfl rfl rfl <| rA rfl rfl <| rN <| ATodo.stop <| ImpX.lq [] ⟨false, h, rfl⟩ rfl rfl
          · rintro σ' ⟨c44, h, rfl⟩
            unfold L_WaysFound_j5 at h
            refine ATodo.ret <| ?_
            obtain rfl := Option.some.inj h
            exact ImpX.here ⟨_, .cons (.tmp _ _ rfl) .nil, rfl⟩

end Go.Proofs.YtjelgjkccklfaaaGreatDoor

