/- The code computes the plain functions: proofs written by shal.py. -/
import Derived.Test.YtlhoigimdehaeaaGreatDoorFixP
import Derived.Test.YtlhoigimdehaeaaGreatDoorLib
set_option maxRecDepth 100000
set_option linter.unusedVariables false
set_option linter.unusedSimpArgs false
namespace Go.Proofs.YtlhoigimdehaeaaGreatDoor
open Go Go.Eng Go.Proofs Go.Beacon
attribute [local irreducible] ARun ATodo AQ QV ACall ImpX AWp AM
instance eqg39 : EqGd Tryz.prog 39 := ⟨by kernel_rfl⟩
instance eqt39 : EqTy Tryz.prog 39 2 Fix.av := ⟨fun x y w S v u hv hu => by
  obtain ⟨vs, rfl, hl, ha⟩ := At.agg_inv hv
  obtain ⟨us, rfl, hl', ha'⟩ := At.agg_inv hu
  obtain ⟨v0, p0, q0⟩ := AtA.get hl ha (off := 0) rfl
  obtain ⟨u0, p0', q0'⟩ := AtA.get hl' ha' (off := 0) rfl
  obtain ⟨v1, p1, q1⟩ := AtA.get hl ha (off := 1) rfl
  obtain ⟨u1, p1', q1'⟩ := AtA.get hl' ha' (off := 1) rfl
  obtain ⟨v2, p2, q2⟩ := AtA.get hl ha (off := 2) rfl
  obtain ⟨u2, p2', q2'⟩ := AtA.get hl' ha' (off := 2) rfl
  obtain ⟨v3, p3, q3⟩ := AtA.get hl ha (off := 3) rfl
  obtain ⟨u3, p3', q3'⟩ := AtA.get hl' ha' (off := 3) rfl
  obtain ⟨v4, p4, q4⟩ := AtA.get hl ha (off := 4) rfl
  obtain ⟨u4, p4', q4'⟩ := AtA.get hl' ha' (off := 4) rfl
  refine EqR.cast (EqR.struct Tryz.underlying39 (by kernel_rfl) (.cons (by decide) (part_one rfl p0) (part_one rfl p0') (EqR.up (EqTy.h (g := AV.str) x.Device y.Device w S _ _ q0 q0') 0)  (.cons (by decide) (part_one rfl p1) (part_one rfl p1') (EqR.up (EqTy.h (g := I) x.At y.At w S _ _ q1 q1') 0)  (.cons (by decide) (part_one rfl p2) (part_one rfl p2') (EqR.up (EqTy.h (g := I) x.X y.X w S _ _ q2 q2') 0)  (.cons (by decide) (part_one rfl p3) (part_one rfl p3') (EqR.up (EqTy.h (g := I) x.Y y.Y w S _ _ q3 q3') 0)  (.cons (by decide) (part_one rfl p4) (part_one rfl p4') (EqR.up (EqTy.h (g := I) x.Error y.Error w S _ _ q4 q4') 0) .nil)))))) ?_
  obtain ⟨_, _, _, _, _⟩ := x
  obtain ⟨_, _, _, _, _⟩ := y
  rw [Bool.eq_iff_iff]; simp [and_assoc]⟩
set_option maxHeartbeats 4000000 in
theorem Below_c [GI : GTab] {p0x0 : Int} {p1x0 : Int} {r : Int} (h : Below p0x0 p1x0 = some r) : Pu Tryz.prog 117 [I p0x0, I p1x0] (I r) := by
  unfold Below at h
  refine ACall.bodyN Tryz.func117 rfl Tryz.ntmps117 Tryz.results117 rfl rfl ?_
  refine tSR <| rA rfl rfl <| rN <| tS <| tSR <| rM rfl rfl <| ARun.qv (q_lss rfl rfl) rfl <| rN <| ATodo.cond_d rfl (fun hc => ?_) (fun hc => ?_)
  · refine have h := iteT hc h; tSR <| rA rfl rfl <| rN <| ATodo.ret <| ?_
    obtain rfl := Option.some.inj h
    exact ImpX.here ⟨_, .cons (.tmp _ _ rfl) .nil, rfl⟩
  · refine have h := iteF hc h; tK <| tSR <| rM rfl rfl <| rM rfl rfl <| bndE h fun n1 e1 h => ARun.qv (t_remS rfl rfl e1) rfl <| rA rfl rfl <| rN <| tS <| tSR <| rM rfl rfl <| ARun.qv (q_lss rfl rfl) rfl <| rN <| ATodo.cut (fun σ' => ∃ (n2 : Int), Below_j1 n2 = some r ∧ σ' = ⟨16, [(0, I n2)], []⟩) ?_ ?_
    · refine ATodo.cond_d rfl (fun hc => ?_) (fun hc => ?_)
      · exact have h := iteT hc h; tR <| rM rfl rfl <| rM rfl rfl <| ARun.qv (q_addw rfl rfl) rfl <| rA rfl rfl <| rN <| ATodo.stop <| ImpX.lq [] ⟨w64 (n1 + p1x0), h, rfl⟩ rfl rfl
      · exact have h := iteF hc h; tK <| ATodo.stop <| ImpX.lq [] ⟨n1, h, rfl⟩ rfl rfl
    · rintro σ' ⟨n2, h, rfl⟩
      unfold Below_j1 at h
      refine tSR <| rM rfl rfl <| rA rfl rfl <| rN <| ATodo.ret <| ?_
      obtain rfl := Option.some.inj h
      exact ImpX.here ⟨_, .cons (.tmp _ _ rfl) .nil, rfl⟩

set_option maxHeartbeats 4000000 in
theorem Stream_Next_c [GI : GTab] {b_0 : Bk} {p0x0 : Fleetmake_Stream} {p1x0 : Int} {r : Int × Fleetmake_Stream} (h : Stream_Next p0x0 p1x0 = some r) : ACall Tryz.prog 51 [.ptr b_0 0, I p1x0] [(b_0, .cells [.list 1 (p0x0.L.map I), I p0x0.at_])] (T0 ([(b_0, .cells [.list 1 (r.2.L.map I), I r.2.at_])]) (I r.1)) := by
  unfold Stream_Next at h
  refine ACall.lessH ?_
  refine ACall.bodyN Tryz.func51 rfl Tryz.ntmps51 Tryz.results51 rfl rfl ?_
  refine tSR <| rA rfl rfl <| rN <| tSR <| rM rfl rfl <| ARun.qv (q_nilCheck_ptr rfl) rfl <| rF rfl rfl rfl <| rL rfl rfl .p0 rfl rfl <| ARun.qv (q_addw rfl rfl) rfl <| ARun.qv (q_nilCheck_ptr rfl) rfl <| rF rfl rfl rfl <| n_store_ptr rfl rfl rfl rfl .p0 rfl rfl <| rN <| tS <| tSR <| rM rfl rfl <| ARun.qv (q_nilCheck_ptr rfl) rfl <| rF rfl rfl rfl <| rL rfl rfl .p0 rfl rfl <| ARun.qv (t_len rfl) rfl <| ARun.qv (q_eql rfl rfl) rfl <| rN <| ATodo.cond_d rfl (fun hc => ?_) (fun hc => ?_)
  · refine have h := iteT hc h; tSR <| rM rfl rfl <| ARun.qv (q_nilCheck_ptr rfl) rfl <| rF rfl rfl rfl <| rL rfl rfl .p0 rfl rfl <| ARun.qv (q_mulw rfl rfl) rfl <| rM rfl rfl <| bndE h fun v1 e1 h => r_callp rfl (Below_c e1) (CoL.refl _) rfl <| rA rfl rfl <| rN <| ATodo.ret <| ?_
    obtain rfl := Option.some.inj h
    exact ImpX.here ⟨_, .cons (.tmp _ _ rfl) .nil, _, .cons .p0 .nil, ⟨rfl, rfl⟩⟩
  · refine have h := iteF hc h; tK <| tS <| ATodo.regionM (id := 4) (A := [0, 1, 3, 7, 15, 0, 32, 96, 224, 480, 1023, 2047]) 12 mixed rfl (by kernel_rfl) (by kernel_rfl) <| AM.qv (q_move rfl) rfl <| AM.qv (q_nilCheck_ptr rfl) rfl <| AM.qv (n_field_ptr rfl rfl) rfl <| AM.qv (q_load_ptr rfl rfl .p0 rfl) rfl <| AM.qv (q_subw rfl rfl) rfl <| AM.qv (q_move rfl) rfl <| AM.qv (q_nilCheck_ptr rfl) rfl <| AM.qv (n_field_ptr rfl rfl) rfl <| AM.qv (q_load_ptr rfl rfl .p0 rfl) rfl <| AM.qv (t_len rfl) rfl <| bndE h fun n2 e2 h => AM.qv (t_remS rfl rfl e2) rfl <| AM.qv (q_assign rfl) rfl <| AM.nil <| rN <| tS <| ATodo.regionM (id := 5) (A := [0, 1, 3, 7, 15, 0, 32, 96, 224, 480, 1023, 2047]) 12 mixed rfl (by kernel_rfl) (by kernel_rfl) <| AM.qv (q_move rfl) rfl <| AM.qv (q_nilCheck_ptr rfl) rfl <| AM.qv (n_field_ptr rfl rfl) rfl <| AM.qv (q_load_ptr rfl rfl .p0 rfl) rfl <| AM.qv (q_subw rfl rfl) rfl <| AM.qv (q_move rfl) rfl <| AM.qv (q_nilCheck_ptr rfl) rfl <| AM.qv (n_field_ptr rfl rfl) rfl <| AM.qv (q_load_ptr rfl rfl .p0 rfl) rfl <| AM.qv (t_len rfl) rfl <| bndE h fun n3 e3 h => AM.qv (t_quoS rfl rfl e3) rfl <| AM.qv (q_assign rfl) rfl <| AM.nil <| rN <| tSR <| rM rfl rfl <| ARun.qv (q_nilCheck_ptr rfl) rfl <| rF rfl rfl rfl <| rL rfl rfl .p0 rfl rfl <| rM rfl rfl <| bndE h fun v4 e4 h => ARun.qv (t_index rfl rfl rfl e4 rfl rfl) rfl <| ARun.qv (q_load_rptr rfl rfl rfl) rfl <| bndE h fun v5 e5 h => r_callp rfl (Below_c e5) (CoL.refl _) rfl <| rM rfl rfl <| rM rfl rfl <| ARun.qv (q_addw rfl rfl) rfl <| ARun.qv (q_mulw rfl rfl) rfl <| ARun.qv (q_addw rfl rfl) rfl <| rM rfl rfl <| bndE h fun v6 e6 h => r_callp rfl (Below_c e6) (CoL.refl _) rfl <| rA rfl rfl <| rN <| ATodo.ret <| ?_
    obtain rfl := Option.some.inj h
    exact ImpX.here ⟨_, .cons (.tmp _ _ rfl) .nil, _, .cons .p0 .nil, ⟨rfl, rfl⟩⟩

set_option maxHeartbeats 4000000 in
theorem Stream_Range_c [GI : GTab] {b_0 : Bk} {p0x0 : Fleetmake_Stream} {p1x0 : Int} {p2x0 : Int} {r : Int × Fleetmake_Stream} (h : Stream_Range p0x0 p1x0 p2x0 = some r) : ACall Tryz.prog 8 [.ptr b_0 0, I p1x0, I p2x0] [(b_0, .cells [.list 1 (p0x0.L.map I), I p0x0.at_])] (T0 ([(b_0, .cells [.list 1 (r.2.L.map I), I r.2.at_])]) (I r.1)) := by
  unfold Stream_Range at h
  refine ACall.lessH ?_
  refine ACall.bodyN Tryz.func8 rfl Tryz.ntmps8 Tryz.results8 rfl rfl ?_
  refine tSR <| rA rfl rfl <| rN <| tS <| tSR <| rM rfl rfl <| rM rfl rfl <| ARun.qv (q_lss rfl rfl) rfl <| rN <| ATodo.cond_d rfl (fun hc => ?_) (fun hc => ?_)
  · refine have h := iteT hc h; tSR <| rM rfl rfl <| rA rfl rfl <| rN <| ATodo.ret <| ?_
    obtain rfl := Option.some.inj h
    exact ImpX.here ⟨_, .cons (.tmp _ _ rfl) .nil, _, .cons .p0 .nil, ⟨rfl, rfl⟩⟩
  · refine have h := iteF hc h; tK <| tSR <| rM rfl rfl <| rM rfl rfl <| rM rfl rfl <| rM rfl rfl <| ARun.qv (q_subw rfl rfl) rfl <| ARun.qv (q_addw rfl rfl) rfl <| bndE h fun v1 e1 h => t_call0 rfl (Stream_Next_c e1) (CoL.refl _) (.cons .p0 .nil) rfl rfl <| ARun.qv (q_addw rfl rfl) rfl <| rA rfl rfl <| rN <| ATodo.ret <| ?_
    obtain rfl := Option.some.inj h
    exact ImpX.here ⟨_, .cons (.tmp _ _ rfl) .nil, _, .cons .p0 .nil, ⟨rfl, rfl⟩⟩

set_option maxHeartbeats 4000000 in
theorem Stream_Some_c [GI : GTab] {b_0 : Bk} {p0x0 : Fleetmake_Stream} {p1x0 : List Str} {r : Str × Fleetmake_Stream} (h : Stream_Some p0x0 p1x0 = some r) : ACall Tryz.prog 44 [.ptr b_0 0, .list 1 (p1x0.map AV.str)] [(b_0, .cells [.list 1 (p0x0.L.map I), I p0x0.at_])] (T0 ([(b_0, .cells [.list 1 (r.2.L.map I), I r.2.at_])]) (.str r.1)) := by
  unfold Stream_Some at h
  refine ACall.lessH ?_
  refine ACall.bodyN Tryz.func44 rfl Tryz.ntmps44 Tryz.results44 rfl rfl ?_
  refine tSR <| rA rfl rfl <| rN <| tSR <| rM rfl rfl <| rM rfl rfl <| rM rfl rfl <| ARun.qv (t_len rfl) rfl <| bndE h fun v1 e1 h => t_call0 rfl (Stream_Next_c e1) (CoL.refl _) (.cons .p0 .nil) rfl rfl <| bndE h fun v2 e2 h => ARun.qv (t_index rfl rfl rfl e2 rfl rfl) rfl <| ARun.qv (q_load_rptr rfl rfl rfl) rfl <| rA rfl rfl <| rN <| ATodo.ret <| ?_
  obtain rfl := Option.some.inj h
  exact ImpX.here ⟨_, .cons (.tmp _ _ rfl) .nil, _, .cons .p0 .nil, ⟨rfl, rfl⟩⟩

set_option maxHeartbeats 4000000 in
theorem Stream_Pick_c [GI : GTab] {b_0 : Bk} {p0x0 : Fleetmake_Stream} {p1x0 : List Int} {r : Int × Fleetmake_Stream} (h : Stream_Pick p0x0 p1x0 = some r) : ACall Tryz.prog 45 [.ptr b_0 0, .list 1 (p1x0.map I)] [(b_0, .cells [.list 1 (p0x0.L.map I), I p0x0.at_])] (T0 ([(b_0, .cells [.list 1 (r.2.L.map I), I r.2.at_])]) (I r.1)) := by
  unfold Stream_Pick at h
  refine ACall.lessH ?_
  refine ACall.bodyN Tryz.func45 rfl Tryz.ntmps45 Tryz.results45 rfl rfl ?_
  refine tSR <| rA rfl rfl <| rN <| tSR <| rM rfl rfl <| rM rfl rfl <| rM rfl rfl <| ARun.qv (t_len rfl) rfl <| bndE h fun v1 e1 h => t_call0 rfl (Stream_Next_c e1) (CoL.refl _) (.cons .p0 .nil) rfl rfl <| bndE h fun v2 e2 h => ARun.qv (t_index rfl rfl rfl e2 rfl rfl) rfl <| ARun.qv (q_load_rptr rfl rfl rfl) rfl <| rA rfl rfl <| rN <| ATodo.ret <| ?_
  obtain rfl := Option.some.inj h
  exact ImpX.here ⟨_, .cons (.tmp _ _ rfl) .nil, _, .cons .p0 .nil, ⟨rfl, rfl⟩⟩

set_option maxHeartbeats 4000000 in
theorem Q_sign_c [GI : GTab] {p0x0 : Int} {r : Int} (h : Q_sign p0x0 = r) : Pu Tryz.prog 116 [I p0x0] (I r) := by
  unfold Q_sign at h
  refine ACall.bodyN Tryz.func116 rfl Tryz.ntmps116 Tryz.results116 rfl rfl ?_
  refine tSR <| rA rfl rfl <| rN <| tS <| ATodo.block <| tSR <| rM rfl rfl <| ARun.qv (q_lss rfl rfl) rfl <| rA rfl rfl <| rN <| ATodo.cond_d rfl (fun hc => ?_) (fun hc => ?_)
  · refine have h := iteT hc h; tSR <| rA rfl rfl <| rN <| ATodo.ret <| ?_
    obtain rfl := h
    exact ImpX.here ⟨_, .cons (.tmp _ _ rfl) .nil, rfl⟩
  · refine have h := iteF hc h; tSR <| rM rfl rfl <| ARun.qv (q_gtr rfl rfl) rfl <| rA rfl rfl <| rN <| ATodo.cond_d rfl (fun hc => ?_) (fun hc => ?_)
    · refine have h := iteT hc h; tSR <| rA rfl rfl <| rN <| ATodo.ret <| ?_
      obtain rfl := h
      exact ImpX.here ⟨_, .cons (.tmp _ _ rfl) .nil, rfl⟩
    · refine have h := iteF hc h; tK <| ATodo.blk <| tSR <| rA rfl rfl <| rN <| ATodo.ret <| ?_
      obtain rfl := h
      exact ImpX.here ⟨_, .cons (.tmp _ _ rfl) .nil, rfl⟩

set_option maxHeartbeats 4000000 in
theorem Q_FixOrder_c [GI : GTab] {p0x0 : Fix} {p1x0 : Fix} {r : Int} (h : Q_FixOrder p0x0 p1x0 = r) : Pu Tryz.prog 47 [.agg [.str p0x0.Device, I p0x0.At, I p0x0.X, I p0x0.Y, I p0x0.Error], .agg [.str p1x0.Device, I p1x0.At, I p1x0.X, I p1x0.Y, I p1x0.Error]] (I r) := by
  unfold Q_FixOrder at h
  refine ACall.bodyN Tryz.func47 rfl Tryz.ntmps47 Tryz.results47 rfl rfl ?_
  refine tSR <| n_box rfl rfl rfl rfl fun b1 => n_box rfl rfl rfl rfl fun b2 => rA rfl rfl <| rN <| tS <| tSR <| rF rfl rfl rfl <| rL rfl rfl .p1 rfl rfl <| rF rfl rfl rfl <| rL rfl rfl .p0 rfl rfl <| ARun.qv (q_sne rfl rfl) rfl <| rN <| ATodo.cond_d rfl (fun hc => ?_) (fun hc => ?_)
  · refine have h := iteT hc h; tSR <| rF rfl rfl rfl <| rL rfl rfl .p1 rfl rfl <| rF rfl rfl rfl <| rL rfl rfl .p0 rfl rfl <| r_callp rfl (strings_Compare_c rfl) (CoL.refl _) rfl <| rA rfl rfl <| rN <| ATodo.ret <| ?_
    obtain rfl := h
    exact ImpX.here ⟨_, .cons (.tmp _ _ rfl) .nil, rfl⟩
  · refine have h := iteF hc h; tK <| tSR <| rF rfl rfl rfl <| rL rfl rfl .p1 rfl rfl <| rF rfl rfl rfl <| rL rfl rfl .p0 rfl rfl <| ARun.qv (q_subw rfl rfl) rfl <| r_callp rfl (Q_sign_c rfl) (CoL.refl _) rfl <| rA rfl rfl <| rN <| ATodo.ret <| ?_
    obtain rfl := h
    exact ImpX.here ⟨_, .cons (.tmp _ _ rfl) .nil, rfl⟩

set_option maxHeartbeats 4000000 in
theorem slices_insertionSortCmpFunc_Fix_c [GI : GTab] {b_0 : Bk} {p0x0 : List Fix} {p1x0 : Int} {p2x0 : Int} {fnd : Fix → Fix → Option Int} {fnd_F : FuncId} [IsFn Tryz.prog fnd_F] {fnd_C : List AV} (fnd_h : ∀ {y0 y1 : _} {u : Int}, fnd y0 y1 = some u → Pu Tryz.prog fnd_F (.agg [.str y0.Device, I y0.At, I y0.X, I y0.Y, I y0.Error] :: .agg [.str y1.Device, I y1.At, I y1.X, I y1.Y, I y1.Error] ::  fnd_C) (I u)) {r : (List Fix)} (h : slices_insertionSortCmpFunc_Fix p0x0 p1x0 p2x0 fnd = some r) : ACall Tryz.prog 165 [.sl 5 b_0 0 p0x0.length, I p1x0, I p2x0, .func (.func fnd_F) fnd_C] [(b_0, .arr 5 (p0x0.map Fix.av))] (T0 ([(b_0, .arr 5 (r.map Fix.av))]) (.tup [])) := by
  unfold slices_insertionSortCmpFunc_Fix at h
  refine ACall.lessH ?_
  refine ACall.bodyN Tryz.func165 rfl Tryz.ntmps165 Tryz.results165 rfl rfl ?_
  refine tSR <| rM rfl rfl <| ARun.qv (q_addw rfl rfl) rfl <| rA rfl rfl <| rN <| ATodo.block <| ATodo.loopI (fun x : (List Fix) × Int => slices_insertionSortCmpFunc_Fix_b1 p1x0 p2x0 fnd x.1 x.2) (fun x σ' => σ' = ⟨53, [(0, .sl 5 b_0 0 x.1.length), (1, I p1x0), (2, I p2x0), (3, .func (.func fnd_F) fnd_C), (8, I x.2)], [(b_0, .arr 5 (x.1.map Fix.av))]⟩) h ?_ ?_
  · exact ImpX.lq [0] rfl rfl rfl
  · intro x z1 σ' J1 hmk h hJ1 hA1
    obtain ⟨l3, n4⟩ := x
    obtain rfl := hmk
    replace h : slices_insertionSortCmpFunc_Fix_b1 p1x0 p2x0 fnd l3 n4 = some z1 := h
    unfold slices_insertionSortCmpFunc_Fix_b1 at h
    refine tS <| tSR <| rM rfl rfl <| rM rfl rfl <| ARun.qv (q_lss rfl rfl) rfl <| rN <| ATodo.cond_d rfl (fun hc => ?_) (fun hc => ?_)
    · refine have h := iteT hc h; tK <| tS <| ATodo.block <| tSR <| rM rfl rfl <| rA rfl rfl <| rN <| ATodo.block <| ATodo.loopI (fun x : (List Fix) × Int => slices_insertionSortCmpFunc_Fix_b2 p1x0 fnd n4 x.1 x.2) (fun x σ' => σ' = ⟨53, [(0, .sl 5 b_0 0 x.1.length), (1, I p1x0), (2, I p2x0), (3, .func (.func fnd_F) fnd_C), (8, I n4), (9, I x.2)], [(b_0, .arr 5 (x.1.map Fix.av))]⟩) h ?_ ?_
      · exact ImpX.lq [0] rfl rfl rfl
      · intro x z2 σ' J2 hmk h hJ2 hA2
        obtain ⟨l7, n8⟩ := x
        obtain rfl := hmk
        replace h : slices_insertionSortCmpFunc_Fix_b2 p1x0 fnd n4 l7 n8 = some z2 := h
        unfold slices_insertionSortCmpFunc_Fix_b2 at h
        refine tS <| tS <| ATodo.cut (fun σ' => ∃ (c9 : Bool), slices_insertionSortCmpFunc_Fix_j1 n4 l7 n8 c9 = some z2 ∧ σ' = ⟨53, [(0, .sl 5 b_0 0 l7.length), (1, I p1x0), (2, I p2x0), (3, .func (.func fnd_F) fnd_C), (8, I n4), (9, I n8), (34, .bool c9)], [(b_0, .arr 5 (l7.map Fix.av))]⟩) ?_ ?_
        · refine ATodo.regionM (id := 4) (A := [0, 0, 3, 7, 15, 15, 15, 111, 239, 15, 15, 1039, 3599, 7695, 16383, 32767, 65535]) 14 mixed rfl (by kernel_rfl) (by kernel_rfl) <| AM.qv (q_move rfl) rfl <| AM.qv (q_move rfl) rfl <| AM.qv (q_gtr rfl rfl) rfl <| AM.qv (q_move rfl) rfl <| AM.guard_dt rfl rfl rfl (fun hc => ?_) (fun hc => ?_)
          · exact have h := iteT hc h; AM.qv (q_move rfl) rfl <| AM.guard_yes rfl rfl rfl <| AM.qv (q_move rfl) rfl <| AM.guard_yes rfl rfl rfl <| AM.qv (q_move rfl) rfl <| AM.guard_yes rfl rfl rfl <| bndE h fun v10 e1 h => AM.qv (t_index_sl rfl rfl rfl e1) rfl <| AM.guard_yes rfl rfl rfl <| AM.qv (t_load_aptr_agg (g := Fix.av) rfl rfl (.inl .p0) rfl e1 rfl) rfl <| AM.guard_yes rfl rfl rfl <| AM.qv (q_move rfl) rfl <| AM.guard_yes rfl rfl rfl <| AM.qv (q_move rfl) rfl <| AM.guard_yes rfl rfl rfl <| AM.qv (q_subw rfl rfl) rfl <| AM.guard_yes rfl rfl rfl <| bndE h fun v11 e2 h => AM.qv (t_index_sl rfl rfl rfl e2) rfl <| AM.guard_yes rfl rfl rfl <| AM.qv (t_load_aptr_agg (g := Fix.av) rfl rfl (.inl .p0) rfl e2 rfl) rfl <| AM.nil <| rY rfl rfl rfl <| bndE h fun v12 e3 h => r_callvp rfl rfl (fnd_h e3) (CoL.refl _) rfl <| rY rfl rfl rfl <| ARun.qv (q_lss rfl rfl) rfl <| rT rfl rfl rfl <| rN <| ATodo.stop <| ImpX.lq [0] ⟨decide (v12 < (0 : Int)), h, rfl⟩ rfl rfl
          · exact have h := iteF hc h; AM.guard_no rfl rfl rfl rfl <| AM.guard_no rfl rfl rfl rfl <| AM.guard_no rfl rfl rfl rfl <| AM.guard_no rfl rfl rfl rfl <| AM.guard_no rfl rfl rfl rfl <| AM.guard_no rfl rfl rfl rfl <| AM.guard_no rfl rfl rfl rfl <| AM.guard_no rfl rfl rfl rfl <| AM.guard_no rfl rfl rfl rfl <| AM.nil <| rG rfl rfl rfl rfl <| rG rfl rfl rfl rfl <| rE rfl rfl rfl <| rN <| ATodo.stop <| ImpX.lq [0] ⟨false, h, rfl⟩ rfl rfl
        · rintro σ' ⟨c9, h, rfl⟩
          unfold slices_insertionSortCmpFunc_Fix_j1 at h
          refine ATodo.cond rfl (fun hc => ?_) (fun hc => ?_)
          · refine have h := iteT hc h; tK <| tS <| ATodo.block <| bndE h fun v13 e4 h => bndE h fun v14 e5 h => bndE h fun v15 e6 h => ATodo.regionT (id := 6) (A := [0, 0, 0, 0, 8, 0, 0, 64, 224, 480, 0, 0, 3072, 7168, 16355, 32739, 65535, 131071]) (H0 := [(b_0, .arr 5 (l7.map Fix.av))]) (HH := fun β => [(b_0, .arr 5 ((l7.set n8.toNat v13).map Fix.av))]) 16 mixed rfl (by kernel_rfl) (by kernel_rfl) [⟨none, some 15, [9, 13], fun _ => (b_0, .arr 5 (l7.map Fix.av)), none⟩, ⟨some 15, none, [], fun _ => (b_0, .arr 5 ((l7.set n8.toNat v13).map Fix.av)), none⟩] [] rfl (by kernel_rfl) rfl (.cons .p0 .nil) (fun _ => rfl) <| AT.am 9 rfl rfl <| AM.qv (q_move rfl) rfl <| AM.qv (q_move rfl) rfl <| AM.qv (q_move rfl) rfl <| AM.qv (q_move rfl) rfl <| AM.qv (q_subw rfl rfl) rfl <| AM.qv (q_move rfl) rfl <| AM.qv (q_move rfl) rfl <| AM.qv (q_subw rfl rfl) rfl <| AM.qv (t_index_sl rfl rfl rfl e4) rfl <| AM.nil <| AT.rd (Rs := [(b_0, .arr 5 (l7.map Fix.av))]) (fun _ => rfl) rfl (fun _ => rfl) (fun _ => rfl) (t_load_aptr_agg (g := Fix.av) rfl rfl (.inl .p0) rfl e4 rfl) rfl <| AT.am 3 rfl rfl <| AM.qv (q_move rfl) rfl <| AM.qv (q_move rfl) rfl <| AM.qv (t_index_sl rfl rfl rfl e5) rfl <| AM.nil <| AT.rd (Rs := [(b_0, .arr 5 (l7.map Fix.av))]) (fun _ => rfl) rfl (fun _ => rfl) (fun _ => rfl) (t_load_aptr_agg (g := Fix.av) rfl rfl (.inl .p0) rfl e5 rfl) rfl <| AT.am 1 rfl rfl <| AM.qv (t_index_sl rfl rfl rfl e6) rfl <| AM.nil <| AT.run0 (Ti := [(b_0, .arr 5 (l7.map Fix.av))]) (Pi := [(b_0, .arr 5 ((l7.set n8.toNat v13).map Fix.av))]) (fun _ => rfl) (fun _ => rfl) (fun _ => rfl) rfl rfl ?_ ?_
            · exact t_store_aptr1 (g := Fix.av) (el' := v13) rfl rfl rfl rfl e6 rfl .p0 rfl <| ARun.nil ⟨_, rfl⟩
            refine AT.nilN (fun _ => rfl) fun β => ARun.ghost <| ImpX.eqs (s := 0) (av' := .sl 5 b_0 0 (l7.set n8.toNat v13).length) rfl (by simp) <| ImpX.here <| ARun.ghost <| ImpX.eqs (s := 37) (av' := .sl 5 b_0 0 (l7.set n8.toNat v13).length) rfl (by simp) <| ImpX.here <| ARun.ghost <| ImpX.eqs (s := 39) (av' := .sl 5 b_0 0 (l7.set n8.toNat v13).length) rfl (by simp) <| ImpX.here <| ARun.ghost <| ImpX.eqs (s := 42) (av' := .sl 5 b_0 0 (l7.set n8.toNat v13).length) rfl (by simp) <| ImpX.here <| ARun.ghost <| ImpX.eqs (s := 47) (av' := .sl 5 b_0 0 (l7.set n8.toNat v13).length) rfl (by simp) <| ImpX.here <| bndE h fun v16 e7 h => ARun.qv (t_index_sl rfl rfl rfl e7) rfl <| t_store_aptr1 (g := Fix.av) (el' := v14) rfl rfl rfl rfl e7 rfl .p0 rfl <| ARun.ghost <| ImpX.eqs (s := 0) (av' := .sl 5 b_0 0 ((l7.set n8.toNat v13).set (w64 (n8 - (1 : Int))).toNat v14).length) rfl (by rw [List.length_set]) <| ImpX.here <| ARun.ghost <| ImpX.eqs (s := 37) (av' := .sl 5 b_0 0 ((l7.set n8.toNat v13).set (w64 (n8 - (1 : Int))).toNat v14).length) rfl (by rw [List.length_set]) <| ImpX.here <| ARun.ghost <| ImpX.eqs (s := 39) (av' := .sl 5 b_0 0 ((l7.set n8.toNat v13).set (w64 (n8 - (1 : Int))).toNat v14).length) rfl (by rw [List.length_set]) <| ImpX.here <| ARun.ghost <| ImpX.eqs (s := 42) (av' := .sl 5 b_0 0 ((l7.set n8.toNat v13).set (w64 (n8 - (1 : Int))).toNat v14).length) rfl (by rw [List.length_set]) <| ImpX.here <| ARun.ghost <| ImpX.eqs (s := 47) (av' := .sl 5 b_0 0 ((l7.set n8.toNat v13).set (w64 (n8 - (1 : Int))).toNat v14).length) rfl (by rw [List.length_set]) <| ImpX.here <| rN <| ATodo.blk <| tR <| rM rfl rfl <| ARun.qv (q_subw rfl rfl) rfl <| rA rfl rfl <| rN <| ATodo.stop <| ?_
            obtain rfl := Option.some.inj h
            exact hJ2 _ _ rfl <| ImpX.lq [0] rfl rfl rfl
          · refine have h := iteFb hc h; ATodo.exit rfl <| have h := outL h hA2; ATodo.blk <| tR <| rM rfl rfl <| ARun.qv (q_addw rfl rfl) rfl <| rA rfl rfl <| rN <| ATodo.stop <| ?_
            obtain rfl := Option.some.inj h
            exact hJ1 _ _ rfl <| ImpX.lq [0] rfl rfl rfl
    · refine have h := iteF hc h; ATodo.exit rfl <| have h := outL h hA1; ATodo.nil <| ?_
      obtain rfl := Option.some.inj h
      exact ImpX.here ⟨_, .nil, _, .cons .p0 .nil, ⟨rfl, rfl⟩⟩

set_option maxHeartbeats 4000000 in
theorem slices_swapRangeCmpFunc_Fix_c [GI : GTab] {b_0 : Bk} {p0x0 : List Fix} {p1x0 : Int} {p2x0 : Int} {p3x0 : Int} {fne : Fix → Fix → Option Int} {fne_F : FuncId} [IsFn Tryz.prog fne_F] {fne_C : List AV} (fne_h : ∀ {y0 y1 : _} {u : Int}, fne y0 y1 = some u → Pu Tryz.prog fne_F (.agg [.str y0.Device, I y0.At, I y0.X, I y0.Y, I y0.Error] :: .agg [.str y1.Device, I y1.At, I y1.X, I y1.Y, I y1.Error] ::  fne_C) (I u)) {r : (List Fix)} (h : slices_swapRangeCmpFunc_Fix p0x0 p1x0 p2x0 p3x0 fne = some r) : ACall Tryz.prog 243 [.sl 5 b_0 0 p0x0.length, I p1x0, I p2x0, I p3x0, .func (.func fne_F) fne_C] [(b_0, .arr 5 (p0x0.map Fix.av))] (T0 ([(b_0, .arr 5 (r.map Fix.av))]) (.tup [])) := by
  unfold slices_swapRangeCmpFunc_Fix at h
  refine ACall.lessH ?_
  refine ACall.bodyN Tryz.func243 rfl Tryz.ntmps243 Tryz.results243 rfl rfl ?_
  refine tSR <| rA rfl rfl <| rN <| ATodo.block <| ATodo.loopI (fun x : (List Fix) × Int => slices_swapRangeCmpFunc_Fix_b1 p1x0 p2x0 p3x0 x.1 x.2) (fun x σ' => σ' = ⟨38, [(0, .sl 5 b_0 0 x.1.length), (1, I p1x0), (2, I p2x0), (3, I p3x0), (10, I x.2)], [(b_0, .arr 5 (x.1.map Fix.av))]⟩) h ?_ ?_
  · exact ImpX.lq [0] rfl rfl rfl
  · intro x z1 σ' J1 hmk h hJ1 hA1
    obtain ⟨l3, n4⟩ := x
    obtain rfl := hmk
    replace h : slices_swapRangeCmpFunc_Fix_b1 p1x0 p2x0 p3x0 l3 n4 = some z1 := h
    unfold slices_swapRangeCmpFunc_Fix_b1 at h
    refine tS <| tSR <| rM rfl rfl <| rM rfl rfl <| ARun.qv (q_lss rfl rfl) rfl <| rN <| ATodo.cond_d rfl (fun hc => ?_) (fun hc => ?_)
    · refine have h := iteT hc h; tK <| tS <| ATodo.block <| bndE h fun v5 e1 h => bndE h fun v6 e2 h => bndE h fun v7 e3 h => ATodo.regionT (id := 3) (A := [0, 0, 0, 6, 0, 0, 0, 96, 0, 0, 0, 1536, 3840, 7936, 0, 0, 0, 98304, 245760, 507904, 1048335, 2096911, 4194303, 8388607]) (H0 := [(b_0, .arr 5 (l3.map Fix.av))]) (HH := fun β => [(b_0, .arr 5 ((l3.set (w64 (p1x0 + n4)).toNat v5).map Fix.av))]) 22 mixed rfl (by kernel_rfl) (by kernel_rfl) [⟨none, some 21, [13, 19], fun _ => (b_0, .arr 5 (l3.map Fix.av)), none⟩, ⟨some 21, none, [], fun _ => (b_0, .arr 5 ((l3.set (w64 (p1x0 + n4)).toNat v5).map Fix.av)), none⟩] [] rfl (by kernel_rfl) rfl (.cons .p0 .nil) (fun _ => rfl) <| AT.am 13 rfl rfl <| AM.qv (q_move rfl) rfl <| AM.qv (q_move rfl) rfl <| AM.qv (q_move rfl) rfl <| AM.qv (q_addw rfl rfl) rfl <| AM.qv (q_move rfl) rfl <| AM.qv (q_move rfl) rfl <| AM.qv (q_move rfl) rfl <| AM.qv (q_addw rfl rfl) rfl <| AM.qv (q_move rfl) rfl <| AM.qv (q_move rfl) rfl <| AM.qv (q_move rfl) rfl <| AM.qv (q_addw rfl rfl) rfl <| AM.qv (t_index_sl rfl rfl rfl e1) rfl <| AM.nil <| AT.rd (Rs := [(b_0, .arr 5 (l3.map Fix.av))]) (fun _ => rfl) rfl (fun _ => rfl) (fun _ => rfl) (t_load_aptr_agg (g := Fix.av) rfl rfl (.inl .p0) rfl e1 rfl) rfl <| AT.am 5 rfl rfl <| AM.qv (q_move rfl) rfl <| AM.qv (q_move rfl) rfl <| AM.qv (q_move rfl) rfl <| AM.qv (q_addw rfl rfl) rfl <| AM.qv (t_index_sl rfl rfl rfl e2) rfl <| AM.nil <| AT.rd (Rs := [(b_0, .arr 5 (l3.map Fix.av))]) (fun _ => rfl) rfl (fun _ => rfl) (fun _ => rfl) (t_load_aptr_agg (g := Fix.av) rfl rfl (.inl .p0) rfl e2 rfl) rfl <| AT.am 1 rfl rfl <| AM.qv (t_index_sl rfl rfl rfl e3) rfl <| AM.nil <| AT.run0 (Ti := [(b_0, .arr 5 (l3.map Fix.av))]) (Pi := [(b_0, .arr 5 ((l3.set (w64 (p1x0 + n4)).toNat v5).map Fix.av))]) (fun _ => rfl) (fun _ => rfl) (fun _ => rfl) rfl rfl ?_ ?_
      · exact t_store_aptr1 (g := Fix.av) (el' := v5) rfl rfl rfl rfl e3 rfl .p0 rfl <| ARun.nil ⟨_, rfl⟩
      refine AT.nilN (fun _ => rfl) fun β => ARun.ghost <| ImpX.eqs (s := 0) (av' := .sl 5 b_0 0 (l3.set (w64 (p1x0 + n4)).toNat v5).length) rfl (by simp) <| ImpX.here <| ARun.ghost <| ImpX.eqs (s := 16) (av' := .sl 5 b_0 0 (l3.set (w64 (p1x0 + n4)).toNat v5).length) rfl (by simp) <| ImpX.here <| ARun.ghost <| ImpX.eqs (s := 20) (av' := .sl 5 b_0 0 (l3.set (w64 (p1x0 + n4)).toNat v5).length) rfl (by simp) <| ImpX.here <| ARun.ghost <| ImpX.eqs (s := 24) (av' := .sl 5 b_0 0 (l3.set (w64 (p1x0 + n4)).toNat v5).length) rfl (by simp) <| ImpX.here <| ARun.ghost <| ImpX.eqs (s := 30) (av' := .sl 5 b_0 0 (l3.set (w64 (p1x0 + n4)).toNat v5).length) rfl (by simp) <| ImpX.here <| bndE h fun v8 e4 h => ARun.qv (t_index_sl rfl rfl rfl e4) rfl <| t_store_aptr1 (g := Fix.av) (el' := v6) rfl rfl rfl rfl e4 rfl .p0 rfl <| ARun.ghost <| ImpX.eqs (s := 0) (av' := .sl 5 b_0 0 ((l3.set (w64 (p1x0 + n4)).toNat v5).set (w64 (p2x0 + n4)).toNat v6).length) rfl (by rw [List.length_set]) <| ImpX.here <| ARun.ghost <| ImpX.eqs (s := 16) (av' := .sl 5 b_0 0 ((l3.set (w64 (p1x0 + n4)).toNat v5).set (w64 (p2x0 + n4)).toNat v6).length) rfl (by rw [List.length_set]) <| ImpX.here <| ARun.ghost <| ImpX.eqs (s := 20) (av' := .sl 5 b_0 0 ((l3.set (w64 (p1x0 + n4)).toNat v5).set (w64 (p2x0 + n4)).toNat v6).length) rfl (by rw [List.length_set]) <| ImpX.here <| ARun.ghost <| ImpX.eqs (s := 24) (av' := .sl 5 b_0 0 ((l3.set (w64 (p1x0 + n4)).toNat v5).set (w64 (p2x0 + n4)).toNat v6).length) rfl (by rw [List.length_set]) <| ImpX.here <| ARun.ghost <| ImpX.eqs (s := 30) (av' := .sl 5 b_0 0 ((l3.set (w64 (p1x0 + n4)).toNat v5).set (w64 (p2x0 + n4)).toNat v6).length) rfl (by rw [List.length_set]) <| ImpX.here <| rN <| ATodo.blk <| tR <| rM rfl rfl <| ARun.qv (q_addw rfl rfl) rfl <| rA rfl rfl <| rN <| ATodo.stop <| ?_
      obtain rfl := Option.some.inj h
      exact hJ1 _ _ rfl <| ImpX.lq [0] rfl rfl rfl
    · refine have h := iteF hc h; ATodo.exit rfl <| have h := outL h hA1; ATodo.nil <| ?_
      obtain rfl := Option.some.inj h
      exact ImpX.here ⟨_, .nil, _, .cons .p0 .nil, ⟨rfl, rfl⟩⟩

set_option maxHeartbeats 4000000 in
theorem slices_rotateCmpFunc_Fix_c [GI : GTab] {b_0 : Bk} {p0x0 : List Fix} {p1x0 : Int} {p2x0 : Int} {p3x0 : Int} {fne : Fix → Fix → Option Int} {fne_F : FuncId} [IsFn Tryz.prog fne_F] {fne_C : List AV} (fne_h : ∀ {y0 y1 : _} {u : Int}, fne y0 y1 = some u → Pu Tryz.prog fne_F (.agg [.str y0.Device, I y0.At, I y0.X, I y0.Y, I y0.Error] :: .agg [.str y1.Device, I y1.At, I y1.X, I y1.Y, I y1.Error] ::  fne_C) (I u)) {r : (List Fix)} (h : slices_rotateCmpFunc_Fix p0x0 p1x0 p2x0 p3x0 fne = some r) : ACall Tryz.prog 209 [.sl 5 b_0 0 p0x0.length, I p1x0, I p2x0, I p3x0, .func (.func fne_F) fne_C] [(b_0, .arr 5 (p0x0.map Fix.av))] (T0 ([(b_0, .arr 5 (r.map Fix.av))]) (.tup [])) := by
  unfold slices_rotateCmpFunc_Fix at h
  refine ACall.lessH ?_
  refine ACall.bodyN Tryz.func209 rfl Tryz.ntmps209 Tryz.results209 rfl rfl ?_
  refine tSR <| rM rfl rfl <| rM rfl rfl <| ARun.qv (q_subw rfl rfl) rfl <| rA rfl rfl <| rN <| tSR <| rM rfl rfl <| rM rfl rfl <| ARun.qv (q_subw rfl rfl) rfl <| rA rfl rfl <| rN <| tS <| ATodo.block <| ATodo.loopI (fun x : (List Fix) × Int × Int => slices_rotateCmpFunc_Fix_b1 p2x0 fne x.1 x.2.1 x.2.2) (fun x σ' => σ' = ⟨58, [(0, .sl 5 b_0 0 x.1.length), (2, I p2x0), (4, .func (.func fne_F) fne_C), (10, I x.2.1), (11, I x.2.2)], [(b_0, .arr 5 (x.1.map Fix.av))]⟩) h ?_ ?_
  · exact ImpX.lq [0] rfl rfl rfl
  · intro x z1 σ' J1 hmk h hJ1 hA1
    obtain ⟨l4, n5, n6⟩ := x
    obtain rfl := hmk
    replace h : slices_rotateCmpFunc_Fix_b1 p2x0 fne l4 n5 n6 = some z1 := h
    unfold slices_rotateCmpFunc_Fix_b1 at h
    refine tS <| tSR <| rM rfl rfl <| rM rfl rfl <| ARun.qv (q_neq rfl rfl) rfl <| rN <| ATodo.cond_d rfl (fun hc => ?_) (fun hc => ?_)
    · refine have h := iteT hc h; tK <| ATodo.block <| tSR <| rM rfl rfl <| rM rfl rfl <| ARun.qv (q_gtr rfl rfl) rfl <| rN <| ATodo.cut (fun σ' => ∃ (l7 : List Fix) (n8 : Int) (n9 : Int), slices_rotateCmpFunc_Fix_j1 l7 n8 n9 = some z1 ∧ σ' = ⟨58, [(0, .sl 5 b_0 0 l7.length), (2, I p2x0), (4, .func (.func fne_F) fne_C), (10, I n8), (11, I n9)], [(b_0, .arr 5 (l7.map Fix.av))]⟩) ?_ ?_
      · refine ATodo.cond_d rfl (fun hc => ?_) (fun hc => ?_)
        · exact have h := iteT hc h; tSR <| rM rfl rfl <| rM rfl rfl <| rM rfl rfl <| ARun.qv (q_subw rfl rfl) rfl <| rM rfl rfl <| rM rfl rfl <| rM rfl rfl <| bndE h fun v10 e1 h => t_call0 rfl (slices_swapRangeCmpFunc_Fix_c fne_h (lenOk_f e1)) (CoL.refl _) (.cons .p0 .nil) rfl rfl <| ARun.ghost <| ImpX.eqs (s := 0) (av' := .sl 5 b_0 0 v10.length) rfl (congrArg (AV.sl 5 b_0 0) (lenOk_l e1)) <| ImpX.here <| ARun.ghost <| ImpX.eqs (s := 24) (av' := .sl 5 b_0 0 v10.length) rfl (congrArg (AV.sl 5 b_0 0) (lenOk_l e1)) <| ImpX.here <| rN <| tR <| rM rfl rfl <| rM rfl rfl <| ARun.qv (q_subw rfl rfl) rfl <| rA rfl rfl <| rN <| ATodo.stop <| ImpX.lq [0] ⟨v10, w64 (n5 - n6), n6, h, rfl⟩ rfl rfl
        · exact have h := iteF hc h; tSR <| rM rfl rfl <| rM rfl rfl <| rM rfl rfl <| ARun.qv (q_subw rfl rfl) rfl <| rM rfl rfl <| rM rfl rfl <| ARun.qv (q_addw rfl rfl) rfl <| rM rfl rfl <| ARun.qv (q_subw rfl rfl) rfl <| rM rfl rfl <| rM rfl rfl <| bndE h fun v11 e2 h => t_call0 rfl (slices_swapRangeCmpFunc_Fix_c fne_h (lenOk_f e2)) (CoL.refl _) (.cons .p0 .nil) rfl rfl <| ARun.ghost <| ImpX.eqs (s := 0) (av' := .sl 5 b_0 0 v11.length) rfl (congrArg (AV.sl 5 b_0 0) (lenOk_l e2)) <| ImpX.here <| ARun.ghost <| ImpX.eqs (s := 35) (av' := .sl 5 b_0 0 v11.length) rfl (congrArg (AV.sl 5 b_0 0) (lenOk_l e2)) <| ImpX.here <| rN <| tR <| rM rfl rfl <| rM rfl rfl <| ARun.qv (q_subw rfl rfl) rfl <| rA rfl rfl <| rN <| ATodo.stop <| ImpX.lq [0] ⟨v11, n5, w64 (n6 - n5), h, rfl⟩ rfl rfl
      · rintro σ' ⟨l7, n8, n9, h, rfl⟩
        unfold slices_rotateCmpFunc_Fix_j1 at h
        refine ATodo.blk <| ATodo.stop <| ?_
        obtain rfl := Option.some.inj h
        exact hJ1 _ _ rfl <| ImpX.lq [0] rfl rfl rfl
    · refine have h := iteF hc h; ATodo.exit rfl <| have h := outL h hA1; ?_
      unfold slices_rotateCmpFunc_Fix_k2 at h
      refine tR <| rM rfl rfl <| rM rfl rfl <| rM rfl rfl <| ARun.qv (q_subw rfl rfl) rfl <| rM rfl rfl <| rM rfl rfl <| rM rfl rfl <| bndE h fun v12 e3 h => t_call0 rfl (slices_swapRangeCmpFunc_Fix_c fne_h (lenOk_f e3)) (CoL.refl _) (.cons .p0 .nil) rfl rfl <| ARun.ghost <| ImpX.eqs (s := 0) (av' := .sl 5 b_0 0 v12.length) rfl (congrArg (AV.sl 5 b_0 0) (lenOk_l e3)) <| ImpX.here <| ARun.ghost <| ImpX.eqs (s := 50) (av' := .sl 5 b_0 0 v12.length) rfl (congrArg (AV.sl 5 b_0 0) (lenOk_l e3)) <| ImpX.here <| rN <| ATodo.nil <| ?_
      obtain rfl := Option.some.inj h
      exact ImpX.here ⟨_, .nil, _, .cons .p0 .nil, ⟨rfl, rfl⟩⟩

set_option maxHeartbeats 4000000 in
theorem slices_symMergeCmpFunc_Fix_bd_c [GI : GTab] {b_0 : Bk} {self : (List Fix) → Int → Int → Int → (Fix → Fix → Option Int) → Option (List Fix)} (self_h : ∀ {b_0 : Bk} {p0x0 : List Fix} {p1x0 : Int} {p2x0 : Int} {p3x0 : Int} {fne : Fix → Fix → Option Int} {fne_F : FuncId} [IsFn Tryz.prog fne_F] {fne_C : List AV} (fne_h : ∀ {y0 y1 : _} {u : Int}, fne y0 y1 = some u → Pu Tryz.prog fne_F (.agg [.str y0.Device, I y0.At, I y0.X, I y0.Y, I y0.Error] :: .agg [.str y1.Device, I y1.At, I y1.X, I y1.Y, I y1.Error] ::  fne_C) (I u)) {r : (List Fix)}, self p0x0 p1x0 p2x0 p3x0 fne = some r → ACall Tryz.prog 166 [.sl 5 b_0 0 p0x0.length, I p1x0, I p2x0, I p3x0, .func (.func fne_F) fne_C] [(b_0, .arr 5 (p0x0.map Fix.av))] (T0 ([(b_0, .arr 5 (r.map Fix.av))]) (.tup []))) {p0x0 : List Fix} {p1x0 : Int} {p2x0 : Int} {p3x0 : Int} {fne : Fix → Fix → Option Int} {fne_F : FuncId} [IsFn Tryz.prog fne_F] {fne_C : List AV} (fne_h : ∀ {y0 y1 : _} {u : Int}, fne y0 y1 = some u → Pu Tryz.prog fne_F (.agg [.str y0.Device, I y0.At, I y0.X, I y0.Y, I y0.Error] :: .agg [.str y1.Device, I y1.At, I y1.X, I y1.Y, I y1.Error] ::  fne_C) (I u)) {r : (List Fix)} (h : slices_symMergeCmpFunc_Fix_bd self p0x0 p1x0 p2x0 p3x0 fne = some r) : ACall Tryz.prog 166 [.sl 5 b_0 0 p0x0.length, I p1x0, I p2x0, I p3x0, .func (.func fne_F) fne_C] [(b_0, .arr 5 (p0x0.map Fix.av))] (T0 ([(b_0, .arr 5 (r.map Fix.av))]) (.tup [])) := by
  unfold slices_symMergeCmpFunc_Fix_bd at h
  refine ACall.lessH ?_
  refine ACall.bodyN Tryz.func166 rfl Tryz.ntmps166 Tryz.results166 rfl rfl ?_
  refine tS <| tSR <| rM rfl rfl <| rM rfl rfl <| ARun.qv (q_subw rfl rfl) rfl <| ARun.qv (q_eql rfl rfl) rfl <| rN <| ATodo.cond_d rfl (fun hc => ?_) (fun hc => ?_)
  · refine have h := iteT hc h; tSR <| rM rfl rfl <| rA rfl rfl <| rN <| tSR <| rM rfl rfl <| rA rfl rfl <| rN <| tS <| ATodo.block <| ATodo.loopI (fun x : Int × Int => slices_symMergeCmpFunc_Fix_b1 p0x0 p1x0 fne x.1 x.2) (fun x σ' => σ' = ⟨220, [(0, .sl 5 b_0 0 p0x0.length), (1, I p1x0), (4, .func (.func fne_F) fne_C), (10, I x.1), (11, I x.2)], [(b_0, .arr 5 (p0x0.map Fix.av))]⟩) h ?_ ?_
    · exact ImpX.lq [0] rfl rfl rfl
    · intro x z1 σ' J1 hmk h hJ1 hA1
      obtain ⟨n3, n4⟩ := x
      obtain rfl := hmk
      replace h : slices_symMergeCmpFunc_Fix_b1 p0x0 p1x0 fne n3 n4 = some z1 := h
      unfold slices_symMergeCmpFunc_Fix_b1 at h
      refine tS <| tSR <| rM rfl rfl <| rM rfl rfl <| ARun.qv (q_lss rfl rfl) rfl <| rN <| ATodo.cond_d rfl (fun hc => ?_) (fun hc => ?_)
      · refine have h := iteT hc h; tK <| ATodo.block <| tSR <| rM rfl rfl <| rM rfl rfl <| ARun.qv (q_addw rfl rfl) rfl <| ARun.qv (q_conv_int rfl) rfl <| ARun.qv (t_shr rfl rfl (by decide)) rfl <| ARun.qv (q_conv_int rfl) rfl <| rA rfl rfl <| rN <| tS <| ATodo.regionM (id := 5) (A := [0, 0, 0, 6, 14, 0, 0, 96, 224, 511, 1023]) 9 mixed rfl (by kernel_rfl) (by kernel_rfl) <| AM.qv (q_move rfl) rfl <| AM.qv (q_move rfl) rfl <| AM.qv (q_move rfl) rfl <| bndE h fun v5 e1 h => AM.qv (t_index_sl rfl rfl rfl e1) rfl <| AM.qv (t_load_aptr_agg (g := Fix.av) rfl rfl (.inl .p0) rfl e1 rfl) rfl <| AM.qv (q_move rfl) rfl <| AM.qv (q_move rfl) rfl <| bndE h fun v6 e2 h => AM.qv (t_index_sl rfl rfl rfl e2) rfl <| AM.qv (t_load_aptr_agg (g := Fix.av) rfl rfl (.inl .p0) rfl e2 rfl) rfl <| AM.nil <| bndE h fun v7 e3 h => r_callvp rfl rfl (fne_h e3) (CoL.refl _) rfl <| ARun.qv (q_lss rfl rfl) rfl <| rN <| ATodo.cut (fun σ' => ∃ (n8 : Int) (n9 : Int), slices_symMergeCmpFunc_Fix_j1 n8 n9 = some z1 ∧ σ' = ⟨220, [(0, .sl 5 b_0 0 p0x0.length), (1, I p1x0), (4, .func (.func fne_F) fne_C), (10, I n8), (11, I n9)], [(b_0, .arr 5 (p0x0.map Fix.av))]⟩) ?_ ?_
        · refine ATodo.cond_d rfl (fun hc => ?_) (fun hc => ?_)
          · exact have h := iteT hc h; tR <| rM rfl rfl <| ARun.qv (q_addw rfl rfl) rfl <| rA rfl rfl <| rN <| ATodo.stop <| ImpX.lq [0] ⟨w64 ((w64 (shrI .u64 (IntKind.u64.wrap (w64 (n3 + n4))) (1 : Int))) + (1 : Int)), n4, h, rfl⟩ rfl rfl
          · exact have h := iteF hc h; tR <| rM rfl rfl <| rA rfl rfl <| rN <| ATodo.stop <| ImpX.lq [0] ⟨n3, w64 (shrI .u64 (IntKind.u64.wrap (w64 (n3 + n4))) (1 : Int)), h, rfl⟩ rfl rfl
        · rintro σ' ⟨n8, n9, h, rfl⟩
          unfold slices_symMergeCmpFunc_Fix_j1 at h
          refine ATodo.blk <| ATodo.stop <| ?_
          obtain rfl := Option.some.inj h
          exact hJ1 _ _ rfl <| ImpX.lq [0] rfl rfl rfl
      · refine have h := iteF hc h; ATodo.exit rfl <| have h := outL h hA1; tS <| tSR <| rM rfl rfl <| rA rfl rfl <| rN <| ATodo.block <| ATodo.loopI (fun x : (List Fix) × Int => slices_symMergeCmpFunc_Fix_b2 n3 x.1 x.2) (fun x σ' => σ' = ⟨220, [(0, .sl 5 b_0 0 x.1.length), (10, I n3), (13, I x.2)], [(b_0, .arr 5 (x.1.map Fix.av))]⟩) h ?_ ?_
        · exact ImpX.lq [0] rfl rfl rfl
        · intro x z2 σ' J2 hmk h hJ2 hA2
          obtain ⟨l12, n13⟩ := x
          obtain rfl := hmk
          replace h : slices_symMergeCmpFunc_Fix_b2 n3 l12 n13 = some z2 := h
          unfold slices_symMergeCmpFunc_Fix_b2 at h
          refine tS <| tSR <| rM rfl rfl <| rM rfl rfl <| ARun.qv (q_subw rfl rfl) rfl <| ARun.qv (q_lss rfl rfl) rfl <| rN <| ATodo.cond_d rfl (fun hc => ?_) (fun hc => ?_)
          · refine have h := iteT hc h; tK <| tS <| ATodo.block <| bndE h fun v14 e4 h => bndE h fun v15 e5 h => bndE h fun v16 e6 h => ATodo.regionT (id := 11) (A := [0, 0, 0, 0, 8, 0, 0, 64, 224, 480, 0, 0, 3072, 7168, 16355, 32739, 65535, 131071]) (H0 := [(b_0, .arr 5 (l12.map Fix.av))]) (HH := fun β => [(b_0, .arr 5 ((l12.set n13.toNat v14).map Fix.av))]) 16 mixed rfl (by kernel_rfl) (by kernel_rfl) [⟨none, some 15, [9, 13], fun _ => (b_0, .arr 5 (l12.map Fix.av)), none⟩, ⟨some 15, none, [], fun _ => (b_0, .arr 5 ((l12.set n13.toNat v14).map Fix.av)), none⟩] [] rfl (by kernel_rfl) rfl (.cons .p0 .nil) (fun _ => rfl) <| AT.am 9 rfl rfl <| AM.qv (q_move rfl) rfl <| AM.qv (q_move rfl) rfl <| AM.qv (q_move rfl) rfl <| AM.qv (q_move rfl) rfl <| AM.qv (q_addw rfl rfl) rfl <| AM.qv (q_move rfl) rfl <| AM.qv (q_move rfl) rfl <| AM.qv (q_addw rfl rfl) rfl <| AM.qv (t_index_sl rfl rfl rfl e4) rfl <| AM.nil <| AT.rd (Rs := [(b_0, .arr 5 (l12.map Fix.av))]) (fun _ => rfl) rfl (fun _ => rfl) (fun _ => rfl) (t_load_aptr_agg (g := Fix.av) rfl rfl (.inl .p0) rfl e4 rfl) rfl <| AT.am 3 rfl rfl <| AM.qv (q_move rfl) rfl <| AM.qv (q_move rfl) rfl <| AM.qv (t_index_sl rfl rfl rfl e5) rfl <| AM.nil <| AT.rd (Rs := [(b_0, .arr 5 (l12.map Fix.av))]) (fun _ => rfl) rfl (fun _ => rfl) (fun _ => rfl) (t_load_aptr_agg (g := Fix.av) rfl rfl (.inl .p0) rfl e5 rfl) rfl <| AT.am 1 rfl rfl <| AM.qv (t_index_sl rfl rfl rfl e6) rfl <| AM.nil <| AT.run0 (Ti := [(b_0, .arr 5 (l12.map Fix.av))]) (Pi := [(b_0, .arr 5 ((l12.set n13.toNat v14).map Fix.av))]) (fun _ => rfl) (fun _ => rfl) (fun _ => rfl) rfl rfl ?_ ?_
            · exact t_store_aptr1 (g := Fix.av) (el' := v14) rfl rfl rfl rfl e6 rfl .p0 rfl <| ARun.nil ⟨_, rfl⟩
            refine AT.nilN (fun _ => rfl) fun β => ARun.ghost <| ImpX.eqs (s := 0) (av' := .sl 5 b_0 0 (l12.set n13.toNat v14).length) rfl (by simp) <| ImpX.here <| ARun.ghost <| ImpX.eqs (s := 61) (av' := .sl 5 b_0 0 (l12.set n13.toNat v14).length) rfl (by simp) <| ImpX.here <| ARun.ghost <| ImpX.eqs (s := 63) (av' := .sl 5 b_0 0 (l12.set n13.toNat v14).length) rfl (by simp) <| ImpX.here <| ARun.ghost <| ImpX.eqs (s := 66) (av' := .sl 5 b_0 0 (l12.set n13.toNat v14).length) rfl (by simp) <| ImpX.here <| ARun.ghost <| ImpX.eqs (s := 71) (av' := .sl 5 b_0 0 (l12.set n13.toNat v14).length) rfl (by simp) <| ImpX.here <| bndE h fun v17 e7 h => ARun.qv (t_index_sl rfl rfl rfl e7) rfl <| t_store_aptr1 (g := Fix.av) (el' := v15) rfl rfl rfl rfl e7 rfl .p0 rfl <| ARun.ghost <| ImpX.eqs (s := 0) (av' := .sl 5 b_0 0 ((l12.set n13.toNat v14).set (w64 (n13 + (1 : Int))).toNat v15).length) rfl (by rw [List.length_set]) <| ImpX.here <| ARun.ghost <| ImpX.eqs (s := 61) (av' := .sl 5 b_0 0 ((l12.set n13.toNat v14).set (w64 (n13 + (1 : Int))).toNat v15).length) rfl (by rw [List.length_set]) <| ImpX.here <| ARun.ghost <| ImpX.eqs (s := 63) (av' := .sl 5 b_0 0 ((l12.set n13.toNat v14).set (w64 (n13 + (1 : Int))).toNat v15).length) rfl (by rw [List.length_set]) <| ImpX.here <| ARun.ghost <| ImpX.eqs (s := 66) (av' := .sl 5 b_0 0 ((l12.set n13.toNat v14).set (w64 (n13 + (1 : Int))).toNat v15).length) rfl (by rw [List.length_set]) <| ImpX.here <| ARun.ghost <| ImpX.eqs (s := 71) (av' := .sl 5 b_0 0 ((l12.set n13.toNat v14).set (w64 (n13 + (1 : Int))).toNat v15).length) rfl (by rw [List.length_set]) <| ImpX.here <| rN <| ATodo.blk <| tR <| rM rfl rfl <| ARun.qv (q_addw rfl rfl) rfl <| rA rfl rfl <| rN <| ATodo.stop <| ?_
            obtain rfl := Option.some.inj h
            exact hJ2 _ _ rfl <| ImpX.lq [0] rfl rfl rfl
          · refine have h := iteF hc h; ATodo.exit rfl <| have h := outL h hA2; ATodo.ret <| ?_
            obtain rfl := Option.some.inj h
            exact ImpX.here ⟨_, .nil, _, .cons .p0 .nil, ⟨rfl, rfl⟩⟩
  · refine have h := iteF hc h; tK <| tS <| tSR <| rM rfl rfl <| rM rfl rfl <| ARun.qv (q_subw rfl rfl) rfl <| ARun.qv (q_eql rfl rfl) rfl <| rN <| ATodo.cond_d rfl (fun hc => ?_) (fun hc => ?_)
    · refine have h := iteT hc h; tSR <| rM rfl rfl <| rA rfl rfl <| rN <| tSR <| rM rfl rfl <| rA rfl rfl <| rN <| tS <| ATodo.block <| ATodo.loopI (fun x : Int × Int => slices_symMergeCmpFunc_Fix_b3 p0x0 p2x0 fne x.1 x.2) (fun x σ' => σ' = ⟨220, [(0, .sl 5 b_0 0 p0x0.length), (2, I p2x0), (4, .func (.func fne_F) fne_C), (14, I x.1), (15, I x.2)], [(b_0, .arr 5 (p0x0.map Fix.av))]⟩) h ?_ ?_
      · exact ImpX.lq [0] rfl rfl rfl
      · intro x z3 σ' J3 hmk h hJ3 hA3
        obtain ⟨n20, n21⟩ := x
        obtain rfl := hmk
        replace h : slices_symMergeCmpFunc_Fix_b3 p0x0 p2x0 fne n20 n21 = some z3 := h
        unfold slices_symMergeCmpFunc_Fix_b3 at h
        refine tS <| tSR <| rM rfl rfl <| rM rfl rfl <| ARun.qv (q_lss rfl rfl) rfl <| rN <| ATodo.cond_d rfl (fun hc => ?_) (fun hc => ?_)
        · refine have h := iteT hc h; tK <| ATodo.block <| tSR <| rM rfl rfl <| rM rfl rfl <| ARun.qv (q_addw rfl rfl) rfl <| ARun.qv (q_conv_int rfl) rfl <| ARun.qv (t_shr rfl rfl (by decide)) rfl <| ARun.qv (q_conv_int rfl) rfl <| rA rfl rfl <| rN <| tS <| ATodo.regionM (id := 17) (A := [0, 0, 0, 6, 14, 0, 0, 96, 224, 511, 1023, 2047]) 9 mixed rfl (by kernel_rfl) (by kernel_rfl) <| AM.qv (q_move rfl) rfl <| AM.qv (q_move rfl) rfl <| AM.qv (q_move rfl) rfl <| bndE h fun v22 e8 h => AM.qv (t_index_sl rfl rfl rfl e8) rfl <| AM.qv (t_load_aptr_agg (g := Fix.av) rfl rfl (.inl .p0) rfl e8 rfl) rfl <| AM.qv (q_move rfl) rfl <| AM.qv (q_move rfl) rfl <| bndE h fun v23 e9 h => AM.qv (t_index_sl rfl rfl rfl e9) rfl <| AM.qv (t_load_aptr_agg (g := Fix.av) rfl rfl (.inl .p0) rfl e9 rfl) rfl <| AM.nil <| bndE h fun v24 e10 h => r_callvp rfl rfl (fne_h e10) (CoL.refl _) rfl <| ARun.qv (q_lss rfl rfl) rfl <| ARun.qv (q_not_d rfl) rfl <| rN <| ATodo.cut (fun σ' => ∃ (n25 : Int) (n26 : Int), slices_symMergeCmpFunc_Fix_j2 n25 n26 = some z3 ∧ σ' = ⟨220, [(0, .sl 5 b_0 0 p0x0.length), (2, I p2x0), (4, .func (.func fne_F) fne_C), (14, I n25), (15, I n26)], [(b_0, .arr 5 (p0x0.map Fix.av))]⟩) ?_ ?_
          · refine ATodo.cond_d rfl (fun hc => ?_) (fun hc => ?_)
            · exact have h := iteT hc h; tR <| rM rfl rfl <| ARun.qv (q_addw rfl rfl) rfl <| rA rfl rfl <| rN <| ATodo.stop <| ImpX.lq [0] ⟨w64 ((w64 (shrI .u64 (IntKind.u64.wrap (w64 (n20 + n21))) (1 : Int))) + (1 : Int)), n21, h, rfl⟩ rfl rfl
            · exact have h := iteF hc h; tR <| rM rfl rfl <| rA rfl rfl <| rN <| ATodo.stop <| ImpX.lq [0] ⟨n20, w64 (shrI .u64 (IntKind.u64.wrap (w64 (n20 + n21))) (1 : Int)), h, rfl⟩ rfl rfl
          · rintro σ' ⟨n25, n26, h, rfl⟩
            unfold slices_symMergeCmpFunc_Fix_j2 at h
            refine ATodo.blk <| ATodo.stop <| ?_
            obtain rfl := Option.some.inj h
            exact hJ3 _ _ rfl <| ImpX.lq [0] rfl rfl rfl
        · refine have h := iteF hc h; ATodo.exit rfl <| have h := outL h hA3; tS <| tSR <| rM rfl rfl <| rA rfl rfl <| rN <| ATodo.block <| ATodo.loopI (fun x : (List Fix) × Int => slices_symMergeCmpFunc_Fix_b4 n20 x.1 x.2) (fun x σ' => σ' = ⟨220, [(0, .sl 5 b_0 0 x.1.length), (14, I n20), (17, I x.2)], [(b_0, .arr 5 (x.1.map Fix.av))]⟩) h ?_ ?_
          · exact ImpX.lq [0] rfl rfl rfl
          · intro x z4 σ' J4 hmk h hJ4 hA4
            obtain ⟨l29, n30⟩ := x
            obtain rfl := hmk
            replace h : slices_symMergeCmpFunc_Fix_b4 n20 l29 n30 = some z4 := h
            unfold slices_symMergeCmpFunc_Fix_b4 at h
            refine tS <| tSR <| rM rfl rfl <| rM rfl rfl <| ARun.qv (q_gtr rfl rfl) rfl <| rN <| ATodo.cond_d rfl (fun hc => ?_) (fun hc => ?_)
            · refine have h := iteT hc h; tK <| tS <| ATodo.block <| bndE h fun v31 e11 h => bndE h fun v32 e12 h => bndE h fun v33 e13 h => ATodo.regionT (id := 23) (A := [0, 0, 0, 0, 8, 0, 0, 64, 224, 480, 0, 0, 3072, 7168, 16355, 32739, 65535, 131071]) (H0 := [(b_0, .arr 5 (l29.map Fix.av))]) (HH := fun β => [(b_0, .arr 5 ((l29.set n30.toNat v31).map Fix.av))]) 16 mixed rfl (by kernel_rfl) (by kernel_rfl) [⟨none, some 15, [9, 13], fun _ => (b_0, .arr 5 (l29.map Fix.av)), none⟩, ⟨some 15, none, [], fun _ => (b_0, .arr 5 ((l29.set n30.toNat v31).map Fix.av)), none⟩] [] rfl (by kernel_rfl) rfl (.cons .p0 .nil) (fun _ => rfl) <| AT.am 9 rfl rfl <| AM.qv (q_move rfl) rfl <| AM.qv (q_move rfl) rfl <| AM.qv (q_move rfl) rfl <| AM.qv (q_move rfl) rfl <| AM.qv (q_subw rfl rfl) rfl <| AM.qv (q_move rfl) rfl <| AM.qv (q_move rfl) rfl <| AM.qv (q_subw rfl rfl) rfl <| AM.qv (t_index_sl rfl rfl rfl e11) rfl <| AM.nil <| AT.rd (Rs := [(b_0, .arr 5 (l29.map Fix.av))]) (fun _ => rfl) rfl (fun _ => rfl) (fun _ => rfl) (t_load_aptr_agg (g := Fix.av) rfl rfl (.inl .p0) rfl e11 rfl) rfl <| AT.am 3 rfl rfl <| AM.qv (q_move rfl) rfl <| AM.qv (q_move rfl) rfl <| AM.qv (t_index_sl rfl rfl rfl e12) rfl <| AM.nil <| AT.rd (Rs := [(b_0, .arr 5 (l29.map Fix.av))]) (fun _ => rfl) rfl (fun _ => rfl) (fun _ => rfl) (t_load_aptr_agg (g := Fix.av) rfl rfl (.inl .p0) rfl e12 rfl) rfl <| AT.am 1 rfl rfl <| AM.qv (t_index_sl rfl rfl rfl e13) rfl <| AM.nil <| AT.run0 (Ti := [(b_0, .arr 5 (l29.map Fix.av))]) (Pi := [(b_0, .arr 5 ((l29.set n30.toNat v31).map Fix.av))]) (fun _ => rfl) (fun _ => rfl) (fun _ => rfl) rfl rfl ?_ ?_
              · exact t_store_aptr1 (g := Fix.av) (el' := v31) rfl rfl rfl rfl e13 rfl .p0 rfl <| ARun.nil ⟨_, rfl⟩
              refine AT.nilN (fun _ => rfl) fun β => ARun.ghost <| ImpX.eqs (s := 0) (av' := .sl 5 b_0 0 (l29.set n30.toNat v31).length) rfl (by simp) <| ImpX.here <| ARun.ghost <| ImpX.eqs (s := 113) (av' := .sl 5 b_0 0 (l29.set n30.toNat v31).length) rfl (by simp) <| ImpX.here <| ARun.ghost <| ImpX.eqs (s := 115) (av' := .sl 5 b_0 0 (l29.set n30.toNat v31).length) rfl (by simp) <| ImpX.here <| ARun.ghost <| ImpX.eqs (s := 118) (av' := .sl 5 b_0 0 (l29.set n30.toNat v31).length) rfl (by simp) <| ImpX.here <| ARun.ghost <| ImpX.eqs (s := 123) (av' := .sl 5 b_0 0 (l29.set n30.toNat v31).length) rfl (by simp) <| ImpX.here <| bndE h fun v34 e14 h => ARun.qv (t_index_sl rfl rfl rfl e14) rfl <| t_store_aptr1 (g := Fix.av) (el' := v32) rfl rfl rfl rfl e14 rfl .p0 rfl <| ARun.ghost <| ImpX.eqs (s := 0) (av' := .sl 5 b_0 0 ((l29.set n30.toNat v31).set (w64 (n30 - (1 : Int))).toNat v32).length) rfl (by rw [List.length_set]) <| ImpX.here <| ARun.ghost <| ImpX.eqs (s := 113) (av' := .sl 5 b_0 0 ((l29.set n30.toNat v31).set (w64 (n30 - (1 : Int))).toNat v32).length) rfl (by rw [List.length_set]) <| ImpX.here <| ARun.ghost <| ImpX.eqs (s := 115) (av' := .sl 5 b_0 0 ((l29.set n30.toNat v31).set (w64 (n30 - (1 : Int))).toNat v32).length) rfl (by rw [List.length_set]) <| ImpX.here <| ARun.ghost <| ImpX.eqs (s := 118) (av' := .sl 5 b_0 0 ((l29.set n30.toNat v31).set (w64 (n30 - (1 : Int))).toNat v32).length) rfl (by rw [List.length_set]) <| ImpX.here <| ARun.ghost <| ImpX.eqs (s := 123) (av' := .sl 5 b_0 0 ((l29.set n30.toNat v31).set (w64 (n30 - (1 : Int))).toNat v32).length) rfl (by rw [List.length_set]) <| ImpX.here <| rN <| ATodo.blk <| tR <| rM rfl rfl <| ARun.qv (q_subw rfl rfl) rfl <| rA rfl rfl <| rN <| ATodo.stop <| ?_
              obtain rfl := Option.some.inj h
              exact hJ4 _ _ rfl <| ImpX.lq [0] rfl rfl rfl
            · refine have h := iteF hc h; ATodo.exit rfl <| have h := outL h hA4; ATodo.ret <| ?_
              obtain rfl := Option.some.inj h
              exact ImpX.here ⟨_, .nil, _, .cons .p0 .nil, ⟨rfl, rfl⟩⟩
    · refine have h := iteF hc h; tK <| tSR <| rM rfl rfl <| rM rfl rfl <| ARun.qv (q_addw rfl rfl) rfl <| ARun.qv (q_conv_int rfl) rfl <| ARun.qv (t_shr rfl rfl (by decide)) rfl <| ARun.qv (q_conv_int rfl) rfl <| rA rfl rfl <| rN <| tSR <| rM rfl rfl <| rM rfl rfl <| ARun.qv (q_addw rfl rfl) rfl <| rA rfl rfl <| rN <| tSR <| rA rfl rfl <| rA rfl rfl <| rN <| tS <| tSR <| rM rfl rfl <| rM rfl rfl <| ARun.qv (q_gtr rfl rfl) rfl <| rN <| ATodo.cut (fun σ' => ∃ (n35 : Int) (n36 : Int), slices_symMergeCmpFunc_Fix_j3 self p0x0 p1x0 p2x0 p3x0 fne n35 n36 = some r ∧ σ' = ⟨220, [(0, .sl 5 b_0 0 p0x0.length), (1, I p1x0), (2, I p2x0), (3, I p3x0), (4, .func (.func fne_F) fne_C), (18, I (w64 (shrI .u64 (IntKind.u64.wrap (w64 (p1x0 + p3x0))) (1 : Int)))), (19, I (w64 ((w64 (shrI .u64 (IntKind.u64.wrap (w64 (p1x0 + p3x0))) (1 : Int))) + p2x0))), (20, I n35), (21, I n36)], [(b_0, .arr 5 (p0x0.map Fix.av))]⟩) ?_ ?_
      · refine ATodo.cond_d rfl (fun hc => ?_) (fun hc => ?_)
        · exact have h := iteT hc h; tSR <| rM rfl rfl <| rM rfl rfl <| ARun.qv (q_subw rfl rfl) rfl <| rA rfl rfl <| rN <| tR <| rM rfl rfl <| rA rfl rfl <| rN <| ATodo.stop <| ImpX.lq [0] ⟨w64 ((w64 ((w64 (shrI .u64 (IntKind.u64.wrap (w64 (p1x0 + p3x0))) (1 : Int))) + p2x0)) - p3x0), w64 (shrI .u64 (IntKind.u64.wrap (w64 (p1x0 + p3x0))) (1 : Int)), h, rfl⟩ rfl rfl
        · exact have h := iteF hc h; tSR <| rM rfl rfl <| rA rfl rfl <| rN <| tR <| rM rfl rfl <| rA rfl rfl <| rN <| ATodo.stop <| ImpX.lq [0] ⟨p1x0, p2x0, h, rfl⟩ rfl rfl
      · rintro σ' ⟨n35, n36, h, rfl⟩
        unfold slices_symMergeCmpFunc_Fix_j3 at h
        refine tSR <| rM rfl rfl <| ARun.qv (q_subw rfl rfl) rfl <| rA rfl rfl <| rN <| tS <| ATodo.block <| ATodo.loopI (fun x : Int × Int => slices_symMergeCmpFunc_Fix_b5 self p0x0 p1x0 p2x0 p3x0 fne x.1 x.2) (fun x σ' => σ' = ⟨220, [(0, .sl 5 b_0 0 p0x0.length), (1, I p1x0), (2, I p2x0), (3, I p3x0), (4, .func (.func fne_F) fne_C), (18, I (w64 (shrI .u64 (IntKind.u64.wrap (w64 (p1x0 + p3x0))) (1 : Int)))), (19, I (w64 ((w64 (shrI .u64 (IntKind.u64.wrap (w64 (p1x0 + p3x0))) (1 : Int))) + p2x0))), (20, I x.1), (21, I x.2), (22, I (w64 ((w64 ((w64 (shrI .u64 (IntKind.u64.wrap (w64 (p1x0 + p3x0))) (1 : Int))) + p2x0)) - (1 : Int))))], [(b_0, .arr 5 (p0x0.map Fix.av))]⟩) h ?_ ?_
        · exact ImpX.lq [0] rfl rfl rfl
        · intro x z5 σ' J5 hmk h hJ5 hA5
          obtain ⟨n39, n40⟩ := x
          obtain rfl := hmk
          replace h : slices_symMergeCmpFunc_Fix_b5 self p0x0 p1x0 p2x0 p3x0 fne n39 n40 = some z5 := h
          unfold slices_symMergeCmpFunc_Fix_b5 at h
          refine tS <| tSR <| rM rfl rfl <| rM rfl rfl <| ARun.qv (q_lss rfl rfl) rfl <| rN <| ATodo.cond_d rfl (fun hc => ?_) (fun hc => ?_)
          · refine have h := iteT hc h; tK <| ATodo.block <| tSR <| rM rfl rfl <| rM rfl rfl <| ARun.qv (q_addw rfl rfl) rfl <| ARun.qv (q_conv_int rfl) rfl <| ARun.qv (t_shr rfl rfl (by decide)) rfl <| ARun.qv (q_conv_int rfl) rfl <| rA rfl rfl <| rN <| tS <| ATodo.regionM (id := 35) (A := [0, 0, 0, 0, 12, 30, 62, 0, 0, 384, 896, 2047, 4095, 8191]) 11 mixed rfl (by kernel_rfl) (by kernel_rfl) <| AM.qv (q_move rfl) rfl <| AM.qv (q_move rfl) rfl <| AM.qv (q_move rfl) rfl <| AM.qv (q_move rfl) rfl <| AM.qv (q_subw rfl rfl) rfl <| bndE h fun v41 e15 h => AM.qv (t_index_sl rfl rfl rfl e15) rfl <| AM.qv (t_load_aptr_agg (g := Fix.av) rfl rfl (.inl .p0) rfl e15 rfl) rfl <| AM.qv (q_move rfl) rfl <| AM.qv (q_move rfl) rfl <| bndE h fun v42 e16 h => AM.qv (t_index_sl rfl rfl rfl e16) rfl <| AM.qv (t_load_aptr_agg (g := Fix.av) rfl rfl (.inl .p0) rfl e16 rfl) rfl <| AM.nil <| bndE h fun v43 e17 h => r_callvp rfl rfl (fne_h e17) (CoL.refl _) rfl <| ARun.qv (q_lss rfl rfl) rfl <| ARun.qv (q_not_d rfl) rfl <| rN <| ATodo.cut (fun σ' => ∃ (n44 : Int) (n45 : Int), slices_symMergeCmpFunc_Fix_j4 n44 n45 = some z5 ∧ σ' = ⟨220, [(0, .sl 5 b_0 0 p0x0.length), (1, I p1x0), (2, I p2x0), (3, I p3x0), (4, .func (.func fne_F) fne_C), (18, I (w64 (shrI .u64 (IntKind.u64.wrap (w64 (p1x0 + p3x0))) (1 : Int)))), (19, I (w64 ((w64 (shrI .u64 (IntKind.u64.wrap (w64 (p1x0 + p3x0))) (1 : Int))) + p2x0))), (20, I n44), (21, I n45), (22, I (w64 ((w64 ((w64 (shrI .u64 (IntKind.u64.wrap (w64 (p1x0 + p3x0))) (1 : Int))) + p2x0)) - (1 : Int))))], [(b_0, .arr 5 (p0x0.map Fix.av))]⟩) ?_ ?_
            · refine ATodo.cond_d rfl (fun hc => ?_) (fun hc => ?_)
              · exact have h := iteT hc h; tR <| rM rfl rfl <| ARun.qv (q_addw rfl rfl) rfl <| rA rfl rfl <| rN <| ATodo.stop <| ImpX.lq [0] ⟨w64 ((w64 (shrI .u64 (IntKind.u64.wrap (w64 (n39 + n40))) (1 : Int))) + (1 : Int)), n40, h, rfl⟩ rfl rfl
              · exact have h := iteF hc h; tR <| rM rfl rfl <| rA rfl rfl <| rN <| ATodo.stop <| ImpX.lq [0] ⟨n39, w64 (shrI .u64 (IntKind.u64.wrap (w64 (n39 + n40))) (1 : Int)), h, rfl⟩ rfl rfl
            · rintro σ' ⟨n44, n45, h, rfl⟩
              unfold slices_symMergeCmpFunc_Fix_j4 at h
              refine ATodo.blk <| ATodo.stop <| ?_
              obtain rfl := Option.some.inj h
              exact hJ5 _ _ rfl <| ImpX.lq [0] rfl rfl rfl
          · refine have h := iteF hc h; ATodo.exit rfl <| have h := outL h hA5; tSR <| rM rfl rfl <| rM rfl rfl <| ARun.qv (q_subw rfl rfl) rfl <| rA rfl rfl <| rN <| tS <| tS <| ATodo.cut (fun σ' => ∃ (c46 : Bool), slices_symMergeCmpFunc_Fix_j5 self p0x0 p1x0 p2x0 p3x0 fne n39 c46 = some r ∧ σ' = ⟨220, [(0, .sl 5 b_0 0 p0x0.length), (1, I p1x0), (2, I p2x0), (3, I p3x0), (4, .func (.func fne_F) fne_C), (18, I (w64 (shrI .u64 (IntKind.u64.wrap (w64 (p1x0 + p3x0))) (1 : Int)))), (20, I n39), (24, I (w64 ((w64 ((w64 (shrI .u64 (IntKind.u64.wrap (w64 (p1x0 + p3x0))) (1 : Int))) + p2x0)) - n39))), (185, .bool c46)], [(b_0, .arr 5 (p0x0.map Fix.av))]⟩) ?_ ?_
            · refine tR <| rM rfl rfl <| rM rfl rfl <| ARun.qv (q_lss rfl rfl) rfl <| rM rfl rfl <| ARun.guard_dt rfl rfl rfl (fun hc => ?_) (fun hc => ?_)
              · rw [andTd hc] at h
                exact rM rfl rfl <| rY rfl rfl rfl <| rM rfl rfl <| rY rfl rfl rfl <| ARun.qv (q_lss rfl rfl) rfl <| rT rfl rfl rfl <| rN <| ATodo.stop <| ImpX.lq [0] ⟨decide (p2x0 < (w64 ((w64 ((w64 (shrI .u64 (IntKind.u64.wrap (w64 (p1x0 + p3x0))) (1 : Int))) + p2x0)) - n39))), h, rfl⟩ rfl rfl
              · rw [andFd hc] at h
                exact rG rfl rfl rfl rfl <| rG rfl rfl rfl rfl <| rE rfl rfl rfl <| rN <| ATodo.stop <| ImpX.lq [0] ⟨false, h, rfl⟩ rfl rfl
            · rintro σ' ⟨c46, h, rfl⟩
              unfold slices_symMergeCmpFunc_Fix_j5 at h
              refine ATodo.cut (fun σ' => ∃ (l47 : List Fix), slices_symMergeCmpFunc_Fix_j6 self p1x0 p2x0 p3x0 fne n39 l47 = some r ∧ σ' = ⟨220, [(0, .sl 5 b_0 0 l47.length), (1, I p1x0), (3, I p3x0), (4, .func (.func fne_F) fne_C), (18, I (w64 (shrI .u64 (IntKind.u64.wrap (w64 (p1x0 + p3x0))) (1 : Int)))), (20, I n39), (24, I (w64 ((w64 ((w64 (shrI .u64 (IntKind.u64.wrap (w64 (p1x0 + p3x0))) (1 : Int))) + p2x0)) - n39)))], [(b_0, .arr 5 (l47.map Fix.av))]⟩) ?_ ?_
              · refine ATodo.cond rfl (fun hc => ?_) (fun hc => ?_)
                · exact have h := iteT hc h; tR <| rM rfl rfl <| rM rfl rfl <| rM rfl rfl <| rM rfl rfl <| rM rfl rfl <| bndE h fun v48 e18 h => t_call0 rfl (slices_rotateCmpFunc_Fix_c fne_h (lenOk_f e18)) (CoL.refl _) (.cons .p0 .nil) rfl rfl <| ARun.ghost <| ImpX.eqs (s := 0) (av' := .sl 5 b_0 0 v48.length) rfl (congrArg (AV.sl 5 b_0 0) (lenOk_l e18)) <| ImpX.here <| ARun.ghost <| ImpX.eqs (s := 186) (av' := .sl 5 b_0 0 v48.length) rfl (congrArg (AV.sl 5 b_0 0) (lenOk_l e18)) <| ImpX.here <| rN <| ATodo.stop <| ImpX.lq [0] ⟨v48, h, rfl⟩ rfl rfl
                · exact have h := iteFb hc h; tK <| ATodo.stop <| ImpX.lq [0] ⟨p0x0, h, rfl⟩ rfl rfl
              · rintro σ' ⟨l47, h, rfl⟩
                unfold slices_symMergeCmpFunc_Fix_j6 at h
                refine tS <| tS <| ATodo.cut (fun σ' => ∃ (c49 : Bool), slices_symMergeCmpFunc_Fix_j7 self p1x0 p2x0 p3x0 fne n39 l47 c49 = some r ∧ σ' = ⟨220, [(0, .sl 5 b_0 0 l47.length), (1, I p1x0), (3, I p3x0), (4, .func (.func fne_F) fne_C), (18, I (w64 (shrI .u64 (IntKind.u64.wrap (w64 (p1x0 + p3x0))) (1 : Int)))), (20, I n39), (24, I (w64 ((w64 ((w64 (shrI .u64 (IntKind.u64.wrap (w64 (p1x0 + p3x0))) (1 : Int))) + p2x0)) - n39))), (199, .bool c49)], [(b_0, .arr 5 (l47.map Fix.av))]⟩) ?_ ?_
                · refine tR <| rM rfl rfl <| rM rfl rfl <| ARun.qv (q_lss rfl rfl) rfl <| rM rfl rfl <| ARun.guard_dt rfl rfl rfl (fun hc => ?_) (fun hc => ?_)
                  · rw [andTd hc] at h
                    exact rM rfl rfl <| rY rfl rfl rfl <| rM rfl rfl <| rY rfl rfl rfl <| ARun.qv (q_lss rfl rfl) rfl <| rT rfl rfl rfl <| rN <| ATodo.stop <| ImpX.lq [0] ⟨decide (n39 < (w64 (shrI .u64 (IntKind.u64.wrap (w64 (p1x0 + p3x0))) (1 : Int)))), h, rfl⟩ rfl rfl
                  · rw [andFd hc] at h
                    exact rG rfl rfl rfl rfl <| rG rfl rfl rfl rfl <| rE rfl rfl rfl <| rN <| ATodo.stop <| ImpX.lq [0] ⟨false, h, rfl⟩ rfl rfl
                · rintro σ' ⟨c49, h, rfl⟩
                  unfold slices_symMergeCmpFunc_Fix_j7 at h
                  refine ATodo.cut (fun σ' => ∃ (l50 : List Fix), slices_symMergeCmpFunc_Fix_j8 self p1x0 p2x0 p3x0 fne n39 l50 = some r ∧ σ' = ⟨220, [(0, .sl 5 b_0 0 l50.length), (3, I p3x0), (4, .func (.func fne_F) fne_C), (18, I (w64 (shrI .u64 (IntKind.u64.wrap (w64 (p1x0 + p3x0))) (1 : Int)))), (24, I (w64 ((w64 ((w64 (shrI .u64 (IntKind.u64.wrap (w64 (p1x0 + p3x0))) (1 : Int))) + p2x0)) - n39)))], [(b_0, .arr 5 (l50.map Fix.av))]⟩) ?_ ?_
                  · refine ATodo.cond rfl (fun hc => ?_) (fun hc => ?_)
                    · exact have h := iteT hc h; tR <| rM rfl rfl <| rM rfl rfl <| rM rfl rfl <| rM rfl rfl <| rM rfl rfl <| bndE h fun v51 e19 h => t_call0 rfl (self_h fne_h (lenOk_f e19)) (CoL.refl _) (.cons .p0 .nil) rfl rfl <| ARun.ghost <| ImpX.eqs (s := 0) (av' := .sl 5 b_0 0 v51.length) rfl (congrArg (AV.sl 5 b_0 0) (lenOk_l e19)) <| ImpX.here <| ARun.ghost <| ImpX.eqs (s := 200) (av' := .sl 5 b_0 0 v51.length) rfl (congrArg (AV.sl 5 b_0 0) (lenOk_l e19)) <| ImpX.here <| rN <| ATodo.stop <| ImpX.lq [0] ⟨v51, h, rfl⟩ rfl rfl
                    · exact have h := iteFb hc h; tK <| ATodo.stop <| ImpX.lq [0] ⟨l47, h, rfl⟩ rfl rfl
                  · rintro σ' ⟨l50, h, rfl⟩
                    unfold slices_symMergeCmpFunc_Fix_j8 at h
                    refine tS <| ATodo.cut (fun σ' => ∃ (c52 : Bool), slices_symMergeCmpFunc_Fix_j9 self p1x0 p2x0 p3x0 fne n39 l50 c52 = some r ∧ σ' = ⟨220, [(0, .sl 5 b_0 0 l50.length), (3, I p3x0), (4, .func (.func fne_F) fne_C), (18, I (w64 (shrI .u64 (IntKind.u64.wrap (w64 (p1x0 + p3x0))) (1 : Int)))), (24, I (w64 ((w64 ((w64 (shrI .u64 (IntKind.u64.wrap (w64 (p1x0 + p3x0))) (1 : Int))) + p2x0)) - n39))), (213, .bool c52)], [(b_0, .arr 5 (l50.map Fix.av))]⟩) ?_ ?_
                    · refine tR <| rM rfl rfl <| rM rfl rfl <| ARun.qv (q_lss rfl rfl) rfl <| rM rfl rfl <| ARun.guard_dt rfl rfl rfl (fun hc => ?_) (fun hc => ?_)
                      · rw [andTd hc] at h
                        exact rM rfl rfl <| rY rfl rfl rfl <| rM rfl rfl <| rY rfl rfl rfl <| ARun.qv (q_lss rfl rfl) rfl <| rT rfl rfl rfl <| rN <| ATodo.stop <| ImpX.lq [0] ⟨decide ((w64 ((w64 ((w64 (shrI .u64 (IntKind.u64.wrap (w64 (p1x0 + p3x0))) (1 : Int))) + p2x0)) - n39)) < p3x0), h, rfl⟩ rfl rfl
                      · rw [andFd hc] at h
                        exact rG rfl rfl rfl rfl <| rG rfl rfl rfl rfl <| rE rfl rfl rfl <| rN <| ATodo.stop <| ImpX.lq [0] ⟨false, h, rfl⟩ rfl rfl
                    · rintro σ' ⟨c52, h, rfl⟩
                      unfold slices_symMergeCmpFunc_Fix_j9 at h
                      refine ATodo.cut (fun σ' => ∃ (l53 : List Fix), slices_symMergeCmpFunc_Fix_j10 l53 = some r ∧ σ' = ⟨220, [], [(b_0, .arr 5 (l53.map Fix.av))]⟩) ?_ ?_
                      · refine ATodo.cond rfl (fun hc => ?_) (fun hc => ?_)
                        · exact have h := iteT hc h; tR <| rM rfl rfl <| rM rfl rfl <| rM rfl rfl <| rM rfl rfl <| rM rfl rfl <| bndE h fun v54 e20 h => t_call0 rfl (self_h fne_h (lenOk_f e20)) (CoL.refl _) (.cons .p0 .nil) rfl rfl <| ARun.ghost <| ImpX.eqs (s := 0) (av' := .sl 5 b_0 0 v54.length) rfl (congrArg (AV.sl 5 b_0 0) (lenOk_l e20)) <| ImpX.here <| ARun.ghost <| ImpX.eqs (s := 214) (av' := .sl 5 b_0 0 v54.length) rfl (congrArg (AV.sl 5 b_0 0) (lenOk_l e20)) <| ImpX.here <| rN <| ATodo.stop <| ImpX.lq [0] ⟨v54, h, rfl⟩ rfl rfl
                        · exact have h := iteFb hc h; tK <| ATodo.stop <| ImpX.lq [0] ⟨l50, h, rfl⟩ rfl rfl
                      · rintro σ' ⟨l53, h, rfl⟩
                        unfold slices_symMergeCmpFunc_Fix_j10 at h
                        refine ATodo.nil <| ?_
                        obtain rfl := Option.some.inj h
                        exact ImpX.here ⟨_, .nil, _, .cons .p0 .nil, ⟨rfl, rfl⟩⟩
theorem slices_symMergeCmpFunc_Fix_r_c [GI : GTab] : ∀ (k : Nat) {b_0 : Bk} {p0x0 : List Fix} {p1x0 : Int} {p2x0 : Int} {p3x0 : Int} {fne : Fix → Fix → Option Int} {fne_F : FuncId} [IsFn Tryz.prog fne_F] {fne_C : List AV} (fne_h : ∀ {y0 y1 : _} {u : Int}, fne y0 y1 = some u → Pu Tryz.prog fne_F (.agg [.str y0.Device, I y0.At, I y0.X, I y0.Y, I y0.Error] :: .agg [.str y1.Device, I y1.At, I y1.X, I y1.Y, I y1.Error] ::  fne_C) (I u)) {r : (List Fix)}, slices_symMergeCmpFunc_Fix_r k p0x0 p1x0 p2x0 p3x0 fne = some r → ACall Tryz.prog 166 [.sl 5 b_0 0 p0x0.length, I p1x0, I p2x0, I p3x0, .func (.func fne_F) fne_C] [(b_0, .arr 5 (p0x0.map Fix.av))] (T0 ([(b_0, .arr 5 (r.map Fix.av))]) (.tup [])) := by
  intro k
  induction k with
  | zero => intro b_0 p0x0 p1x0 p2x0 p3x0 fne fne_F _ fne_C fne_h r h; cases h
  | succ k ih => intro b_0 p0x0 p1x0 p2x0 p3x0 fne fne_F _ fne_C fne_h r h; exact slices_symMergeCmpFunc_Fix_bd_c ih fne_h h
theorem slices_symMergeCmpFunc_Fix_c [GI : GTab] {b_0 : Bk} {p0x0 : List Fix} {p1x0 : Int} {p2x0 : Int} {p3x0 : Int} {fne : Fix → Fix → Option Int} {fne_F : FuncId} [IsFn Tryz.prog fne_F] {fne_C : List AV} (fne_h : ∀ {y0 y1 : _} {u : Int}, fne y0 y1 = some u → Pu Tryz.prog fne_F (.agg [.str y0.Device, I y0.At, I y0.X, I y0.Y, I y0.Error] :: .agg [.str y1.Device, I y1.At, I y1.X, I y1.Y, I y1.Error] ::  fne_C) (I u)) {r : (List Fix)} (h : slices_symMergeCmpFunc_Fix p0x0 p1x0 p2x0 p3x0 fne = some r) : ACall Tryz.prog 166 [.sl 5 b_0 0 p0x0.length, I p1x0, I p2x0, I p3x0, .func (.func fne_F) fne_C] [(b_0, .arr 5 (p0x0.map Fix.av))] (T0 ([(b_0, .arr 5 (r.map Fix.av))]) (.tup [])) := slices_symMergeCmpFunc_Fix_r_c depth fne_h h

set_option maxHeartbeats 4000000 in
theorem slices_stableCmpFunc_Fix_c [GI : GTab] {b_0 : Bk} {p0x0 : List Fix} {p1x0 : Int} {fnc : Fix → Fix → Option Int} {fnc_F : FuncId} [IsFn Tryz.prog fnc_F] {fnc_C : List AV} (fnc_h : ∀ {y0 y1 : _} {u : Int}, fnc y0 y1 = some u → Pu Tryz.prog fnc_F (.agg [.str y0.Device, I y0.At, I y0.X, I y0.Y, I y0.Error] :: .agg [.str y1.Device, I y1.At, I y1.X, I y1.Y, I y1.Error] ::  fnc_C) (I u)) {r : (List Fix)} (h : slices_stableCmpFunc_Fix p0x0 p1x0 fnc = some r) : ACall Tryz.prog 114 [.sl 5 b_0 0 p0x0.length, I p1x0, .func (.func fnc_F) fnc_C] [(b_0, .arr 5 (p0x0.map Fix.av))] (T0 ([(b_0, .arr 5 (r.map Fix.av))]) (.tup [])) := by
  unfold slices_stableCmpFunc_Fix at h
  refine ACall.lessH ?_
  refine ACall.bodyN Tryz.func114 rfl Tryz.ntmps114 Tryz.results114 rfl rfl ?_
  refine tSR <| rA rfl rfl <| rN <| tSR <| rM rfl rfl <| rA rfl rfl <| rA rfl rfl <| rN <| tS <| ATodo.block <| ATodo.loopI (fun x : (List Fix) × Int × Int => slices_stableCmpFunc_Fix_b1 p1x0 fnc x.1 x.2.1 x.2.2) (fun x σ' => σ' = ⟨63, [(0, .sl 5 b_0 0 x.1.length), (1, I p1x0), (2, .func (.func fnc_F) fnc_C), (6, I (20 : Int)), (7, I x.2.1), (8, I x.2.2)], [(b_0, .arr 5 (x.1.map Fix.av))]⟩) h ?_ ?_
  · exact ImpX.lq [0] rfl rfl rfl
  · intro x z1 σ' J1 hmk h hJ1 hA1
    obtain ⟨l4, n5, n6⟩ := x
    obtain rfl := hmk
    replace h : slices_stableCmpFunc_Fix_b1 p1x0 fnc l4 n5 n6 = some z1 := h
    unfold slices_stableCmpFunc_Fix_b1 at h
    refine tS <| tSR <| rM rfl rfl <| rM rfl rfl <| ARun.qv (q_leq rfl rfl) rfl <| rN <| ATodo.cond_d rfl (fun hc => ?_) (fun hc => ?_)
    · refine have h := iteT hc h; tK <| ATodo.block <| tSR <| rM rfl rfl <| rM rfl rfl <| rM rfl rfl <| rM rfl rfl <| bndE h fun v7 e1 h => t_call0 rfl (slices_insertionSortCmpFunc_Fix_c fnc_h (lenOk_f e1)) (CoL.refl _) (.cons .p0 .nil) rfl rfl <| ARun.ghost <| ImpX.eqs (s := 0) (av' := .sl 5 b_0 0 v7.length) rfl (congrArg (AV.sl 5 b_0 0) (lenOk_l e1)) <| ImpX.here <| ARun.ghost <| ImpX.eqs (s := 14) (av' := .sl 5 b_0 0 v7.length) rfl (congrArg (AV.sl 5 b_0 0) (lenOk_l e1)) <| ImpX.here <| rN <| tSR <| rM rfl rfl <| rA rfl rfl <| rN <| tR <| rM rfl rfl <| rM rfl rfl <| ARun.qv (q_addw rfl rfl) rfl <| rA rfl rfl <| rN <| ATodo.blk <| ATodo.stop <| ?_
      obtain rfl := Option.some.inj h
      exact hJ1 _ _ rfl <| ImpX.lq [0] rfl rfl rfl
    · refine have h := iteF hc h; ATodo.exit rfl <| have h := outL h hA1; ?_
      unfold slices_stableCmpFunc_Fix_k3 at h
      refine tSR <| rM rfl rfl <| rM rfl rfl <| rM rfl rfl <| rM rfl rfl <| bndE h fun v8 e2 h => t_call0 rfl (slices_insertionSortCmpFunc_Fix_c fnc_h (lenOk_f e2)) (CoL.refl _) (.cons .p0 .nil) rfl rfl <| ARun.ghost <| ImpX.eqs (s := 0) (av' := .sl 5 b_0 0 v8.length) rfl (congrArg (AV.sl 5 b_0 0) (lenOk_l e2)) <| ImpX.here <| ARun.ghost <| ImpX.eqs (s := 23) (av' := .sl 5 b_0 0 v8.length) rfl (congrArg (AV.sl 5 b_0 0) (lenOk_l e2)) <| ImpX.here <| rN <| ATodo.block <| ATodo.loopI (fun x : (List Fix) × Int => slices_stableCmpFunc_Fix_b2 p1x0 fnc x.1 x.2) (fun x σ' => σ' = ⟨63, [(0, .sl 5 b_0 0 x.1.length), (1, I p1x0), (2, .func (.func fnc_F) fnc_C), (6, I x.2)], [(b_0, .arr 5 (x.1.map Fix.av))]⟩) h ?_ ?_
      · exact ImpX.lq [0] rfl rfl rfl
      · intro x z2 σ' J2 hmk h hJ2 hA2
        obtain ⟨l11, n12⟩ := x
        obtain rfl := hmk
        replace h : slices_stableCmpFunc_Fix_b2 p1x0 fnc l11 n12 = some z2 := h
        unfold slices_stableCmpFunc_Fix_b2 at h
        refine tS <| tSR <| rM rfl rfl <| rM rfl rfl <| ARun.qv (q_lss rfl rfl) rfl <| rN <| ATodo.cond_d rfl (fun hc => ?_) (fun hc => ?_)
        · refine have h := iteT hc h; tK <| ATodo.block <| tSR <| rM rfl rfl <| ARun.qv (q_mulw rfl rfl) rfl <| rA rfl rfl <| rA rfl rfl <| rN <| tS <| ATodo.block <| ATodo.loopI (fun x : (List Fix) × Int × Int => slices_stableCmpFunc_Fix_b3 p1x0 fnc n12 x.1 x.2.1 x.2.2) (fun x σ' => σ' = ⟨63, [(0, .sl 5 b_0 0 x.1.length), (1, I p1x0), (2, .func (.func fnc_F) fnc_C), (6, I n12), (7, I x.2.1), (8, I x.2.2)], [(b_0, .arr 5 (x.1.map Fix.av))]⟩) h ?_ ?_
          · exact ImpX.lq [0] rfl rfl rfl
          · intro x z3 σ' J3 hmk h hJ3 hA3
            obtain ⟨l16, n17, n18⟩ := x
            obtain rfl := hmk
            replace h : slices_stableCmpFunc_Fix_b3 p1x0 fnc n12 l16 n17 n18 = some z3 := h
            unfold slices_stableCmpFunc_Fix_b3 at h
            refine tS <| tSR <| rM rfl rfl <| rM rfl rfl <| ARun.qv (q_leq rfl rfl) rfl <| rN <| ATodo.cond_d rfl (fun hc => ?_) (fun hc => ?_)
            · refine have h := iteT hc h; tK <| ATodo.block <| tSR <| rM rfl rfl <| rM rfl rfl <| rM rfl rfl <| rM rfl rfl <| ARun.qv (q_addw rfl rfl) rfl <| rM rfl rfl <| rM rfl rfl <| bndE h fun v19 e3 h => t_call0 rfl (slices_symMergeCmpFunc_Fix_c fnc_h (lenOk_f e3)) (CoL.refl _) (.cons .p0 .nil) rfl rfl <| ARun.ghost <| ImpX.eqs (s := 0) (av' := .sl 5 b_0 0 v19.length) rfl (congrArg (AV.sl 5 b_0 0) (lenOk_l e3)) <| ImpX.here <| ARun.ghost <| ImpX.eqs (s := 36) (av' := .sl 5 b_0 0 v19.length) rfl (congrArg (AV.sl 5 b_0 0) (lenOk_l e3)) <| ImpX.here <| rN <| tSR <| rM rfl rfl <| rA rfl rfl <| rN <| tR <| rM rfl rfl <| rM rfl rfl <| ARun.qv (q_mulw rfl rfl) rfl <| ARun.qv (q_addw rfl rfl) rfl <| rA rfl rfl <| rN <| ATodo.blk <| ATodo.stop <| ?_
              obtain rfl := Option.some.inj h
              exact hJ3 _ _ rfl <| ImpX.lq [0] rfl rfl rfl
            · refine have h := iteF hc h; ATodo.exit rfl <| have h := outL h hA3; ?_
              unfold slices_stableCmpFunc_Fix_k2 at h
              refine tS <| tSR <| rM rfl rfl <| rM rfl rfl <| ARun.qv (q_addw rfl rfl) rfl <| rA rfl rfl <| rN <| tSR <| rM rfl rfl <| rM rfl rfl <| ARun.qv (q_lss rfl rfl) rfl <| rN <| ATodo.cut (fun σ' => ∃ (l20 : List Fix), slices_stableCmpFunc_Fix_j1 n12 l20 = some z2 ∧ σ' = ⟨63, [(0, .sl 5 b_0 0 l20.length), (1, I p1x0), (2, .func (.func fnc_F) fnc_C), (6, I n12)], [(b_0, .arr 5 (l20.map Fix.av))]⟩) ?_ ?_
              · refine ATodo.cond_d rfl (fun hc => ?_) (fun hc => ?_)
                · exact have h := iteT hc h; tR <| rM rfl rfl <| rM rfl rfl <| rM rfl rfl <| rM rfl rfl <| rM rfl rfl <| bndE h fun v21 e4 h => t_call0 rfl (slices_symMergeCmpFunc_Fix_c fnc_h (lenOk_f e4)) (CoL.refl _) (.cons .p0 .nil) rfl rfl <| ARun.ghost <| ImpX.eqs (s := 0) (av' := .sl 5 b_0 0 v21.length) rfl (congrArg (AV.sl 5 b_0 0) (lenOk_l e4)) <| ImpX.here <| ARun.ghost <| ImpX.eqs (s := 55) (av' := .sl 5 b_0 0 v21.length) rfl (congrArg (AV.sl 5 b_0 0) (lenOk_l e4)) <| ImpX.here <| rN <| ATodo.stop <| ImpX.lq [0] ⟨v21, h, rfl⟩ rfl rfl
                · exact have h := iteF hc h; tK <| ATodo.stop <| ImpX.lq [0] ⟨l16, h, rfl⟩ rfl rfl
              · rintro σ' ⟨l20, h, rfl⟩
                unfold slices_stableCmpFunc_Fix_j1 at h
                refine tR <| rM rfl rfl <| ARun.qv (q_mulw rfl rfl) rfl <| rA rfl rfl <| rN <| ATodo.blk <| ATodo.stop <| ?_
                obtain rfl := Option.some.inj h
                exact hJ2 _ _ rfl <| ImpX.lq [0] rfl rfl rfl
        · refine have h := iteF hc h; ATodo.exit rfl <| have h := outL h hA2; ATodo.nil <| ?_
          obtain rfl := Option.some.inj h
          exact ImpX.here ⟨_, .nil, _, .cons .p0 .nil, ⟨rfl, rfl⟩⟩

set_option maxHeartbeats 4000000 in
theorem slices_SortStableFunc_Fix_Fix_c [GI : GTab] {b_0 : Bk} {p0x0 : List Fix} {fnb : Fix → Fix → Option Int} {fnb_F : FuncId} [IsFn Tryz.prog fnb_F] {fnb_C : List AV} (fnb_h : ∀ {y0 y1 : _} {u : Int}, fnb y0 y1 = some u → Pu Tryz.prog fnb_F (.agg [.str y0.Device, I y0.At, I y0.X, I y0.Y, I y0.Error] :: .agg [.str y1.Device, I y1.At, I y1.X, I y1.Y, I y1.Error] ::  fnb_C) (I u)) {r : (List Fix)} (h : slices_SortStableFunc_Fix_Fix p0x0 fnb = some r) : ACall Tryz.prog 46 [.sl 5 b_0 0 p0x0.length, .func (.func fnb_F) fnb_C] [(b_0, .arr 5 (p0x0.map Fix.av))] (T0 ([(b_0, .arr 5 (r.map Fix.av))]) (.tup [])) := by
  unfold slices_SortStableFunc_Fix_Fix at h
  refine ACall.lessH ?_
  refine ACall.bodyN Tryz.func46 rfl Tryz.ntmps46 Tryz.results46 rfl rfl ?_
  refine tR <| rM rfl rfl <| rM rfl rfl <| ARun.qv (t_len_sl rfl) rfl <| rM rfl rfl <| bndE h fun v1 e1 h => t_call0 rfl (slices_stableCmpFunc_Fix_c fnb_h (lenOk_f e1)) (CoL.refl _) (.cons .p0 .nil) rfl rfl <| ARun.ghost <| ImpX.eqs (s := 0) (av' := .sl 5 b_0 0 v1.length) rfl (congrArg (AV.sl 5 b_0 0) (lenOk_l e1)) <| ImpX.here <| ARun.ghost <| ImpX.eqs (s := 4) (av' := .sl 5 b_0 0 v1.length) rfl (congrArg (AV.sl 5 b_0 0) (lenOk_l e1)) <| ImpX.here <| ARun.ghost <| ImpX.eqs (s := 5) (av' := .sl 5 b_0 0 v1.length) rfl (congrArg (AV.sl 5 b_0 0) (lenOk_l e1)) <| ImpX.here <| rN <| ATodo.nil <| ?_
  obtain rfl := Option.some.inj h
  exact ImpX.here ⟨_, .nil, _, .cons .p0 .nil, ⟨rfl, rfl⟩⟩

set_option maxHeartbeats 4000000 in
theorem Stream_Flip_c [GI : GTab] {b_0 : Bk} {p0x0 : Fleetmake_Stream} {p1x0 : Int} {r : Bool × Fleetmake_Stream} (h : Stream_Flip p0x0 p1x0 = some r) : ACall Tryz.prog 48 [.ptr b_0 0, I p1x0] [(b_0, .cells [.list 1 (p0x0.L.map I), I p0x0.at_])] (T0 ([(b_0, .cells [.list 1 (r.2.L.map I), I r.2.at_])]) (.bool r.1)) := by
  unfold Stream_Flip at h
  refine ACall.lessH ?_
  refine ACall.bodyN Tryz.func48 rfl Tryz.ntmps48 Tryz.results48 rfl rfl ?_
  refine tSR <| rA rfl rfl <| rN <| tSR <| rM rfl rfl <| rM rfl rfl <| bndE h fun v1 e1 h => t_call0 rfl (Stream_Next_c e1) (CoL.refl _) (.cons .p0 .nil) rfl rfl <| ARun.qv (q_eql rfl rfl) rfl <| rA rfl rfl <| rN <| ATodo.ret <| ?_
  obtain rfl := Option.some.inj h
  exact ImpX.here ⟨_, .cons (.tmp _ _ rfl) .nil, _, .cons .p0 .nil, ⟨rfl, rfl⟩⟩

set_option maxHeartbeats 4000000 in
theorem Stream_Fixes_1x_c [GI : GTab] {p0x0 : Fix} {p1x0 : Fix} {r : Bool} (h : Stream_Fixes_1x p0x0 p1x0 = r) : Pu Tryz.prog 50 [.agg [.str p0x0.Device, I p0x0.At, I p0x0.X, I p0x0.Y, I p0x0.Error], .agg [.str p1x0.Device, I p1x0.At, I p1x0.X, I p1x0.Y, I p1x0.Error]] (.bool r) := by
  unfold Stream_Fixes_1x at h
  refine ACall.bodyN Tryz.func50 rfl Tryz.ntmps50 Tryz.results50 rfl rfl ?_
  refine tSR <| n_box rfl rfl rfl rfl fun b1 => n_box rfl rfl rfl rfl fun b2 => rA rfl rfl <| rN <| tSR <| ARun.qv (q_load_ptr_all rfl rfl .p1 rfl) rfl <| ARun.qv (q_load_ptr_all rfl rfl .p0 rfl) rfl <| r_callp rfl (Q_FixOrder_c rfl) (CoL.refl _) rfl <| ARun.qv (q_eql rfl rfl) rfl <| rA rfl rfl <| rN <| ATodo.ret <| ?_
  obtain rfl := h
  exact ImpX.here ⟨_, .cons (.tmp _ _ rfl) .nil, rfl⟩

set_option maxHeartbeats 4000000 in
theorem slices_CompactFunc_Fix_Fix_c [GI : GTab] {b_0 : Bk} {p0x0 : List Fix} {fnb : Fix → Fix → Option Bool} {fnb_F : FuncId} [IsFn Tryz.prog fnb_F] {fnb_C : List AV} (fnb_h : ∀ {y0 y1 : _} {u : Bool}, fnb y0 y1 = some u → Pu Tryz.prog fnb_F (.agg [.str y0.Device, I y0.At, I y0.X, I y0.Y, I y0.Error] :: .agg [.str y1.Device, I y1.At, I y1.X, I y1.Y, I y1.Error] ::  fnb_C) (.bool u)) {r : (List Fix)} (h : slices_CompactFunc_Fix_Fix p0x0 fnb = some r) : ACall Tryz.prog 49 [.sl 5 b_0 0 p0x0.length, .func (.func fnb_F) fnb_C] [(b_0, .arr 5 (p0x0.map Fix.av))] (T1 (fun d_0 => [(d_0, .arr 5 (r.map Fix.av))]) (fun d_0 => .sl 5 d_0 0 r.length)) := by
  unfold slices_CompactFunc_Fix_Fix at h
  refine ACall.lessH ?_
  refine ACall.bodyN Tryz.func49 rfl Tryz.ntmps49 Tryz.results49 rfl rfl ?_
  refine tSR <| rA rfl rfl <| rN <| tS <| tSR <| rM rfl rfl <| ARun.qv (t_len_sl rfl) rfl <| ARun.qv (q_lss rfl rfl) rfl <| rN <| ATodo.cond_d rfl (fun hc => ?_) (fun hc => ?_)
  · refine have h := iteT hc h; tSR <| rM rfl rfl <| rA rfl rfl <| rN <| ATodo.ret <| ?_
    obtain rfl := Option.some.inj h
    exact ImpX.here ⟨_, .cons (.tmp _ _ rfl) .nil, _, .cons .p0 .nil, ⟨b_0, rfl, rfl⟩⟩
  · refine have h := iteF hc h; tK <| tS <| tSR <| rA rfl rfl <| rN <| ATodo.block <| ATodo.loopI (fun x : Int => slices_CompactFunc_Fix_Fix_b1 p0x0 fnb x) (fun x σ' => σ' = ⟨66, [(0, .sl 5 b_0 0 p0x0.length), (1, .func (.func fnb_F) fnb_C), (5, I x)], [(b_0, .arr 5 (p0x0.map Fix.av))]⟩) h ?_ ?_
    · exact ImpX.lq [0] rfl rfl rfl
    · intro n2 z1 σ' J1 hmk h hJ1 hA1
      obtain rfl := hmk
      replace h : slices_CompactFunc_Fix_Fix_b1 p0x0 fnb n2 = some z1 := h
      unfold slices_CompactFunc_Fix_Fix_b1 at h
      refine tS <| tSR <| rM rfl rfl <| rM rfl rfl <| ARun.qv (t_len_sl rfl) rfl <| ARun.qv (q_lss rfl rfl) rfl <| rN <| ATodo.cond_d rfl (fun hc => ?_) (fun hc => ?_)
      · refine have h := iteT hc h; tK <| tS <| ATodo.block <| tS <| ATodo.regionM (id := 6) (A := [0, 0, 0, 6, 14, 0, 0, 64, 224, 480, 1023]) 10 mixed rfl (by kernel_rfl) (by kernel_rfl) <| AM.qv (q_move rfl) rfl <| AM.qv (q_move rfl) rfl <| AM.qv (q_move rfl) rfl <| bndE h fun v3 e1 h => AM.qv (t_index_sl rfl rfl rfl e1) rfl <| AM.qv (t_load_aptr_agg (g := Fix.av) rfl rfl (.inl .p0) rfl e1 rfl) rfl <| AM.qv (q_move rfl) rfl <| AM.qv (q_move rfl) rfl <| AM.qv (q_subw rfl rfl) rfl <| bndE h fun v4 e2 h => AM.qv (t_index_sl rfl rfl rfl e2) rfl <| AM.qv (t_load_aptr_agg (g := Fix.av) rfl rfl (.inl .p0) rfl e2 rfl) rfl <| AM.nil <| bndE h fun v5 e3 h => r_callvp rfl rfl (fnb_h e3) (CoL.refl _) rfl <| rN <| ATodo.cond rfl (fun hc => ?_) (fun hc => ?_)
        · refine have h := iteT hc h; tSR <| rM rfl rfl <| rM rfl rfl <| bndE h fun l6 e4 h => ARun.qv (t_slice_sl rfl rfl (.some _ _ _ rfl) .none rfl rfl e4) rfl <| rA rfl rfl <| rN <| tS <| tSR <| rA rfl rfl <| rN <| ATodo.block <| ATodo.loopI (fun x : (List Fix) × Int × Int => slices_CompactFunc_Fix_Fix_b2 fnb n2 l6 x.1 x.2.1 x.2.2) (fun x σ' => σ' = ⟨66, [(0, .sl 5 b_0 0 x.1.length), (1, .func (.func fnb_F) fnb_C), (5, I x.2.1), (6, .sl 5 b_0 n2.toNat l6.length), (7, I x.2.2)], [(b_0, .arr 5 (x.1.map Fix.av))]⟩) h ?_ ?_
          · exact ImpX.lq [0] rfl rfl rfl
          · intro x z2 σ' J2 hmk h hJ2 hA2
            obtain ⟨l10, n11, n12⟩ := x
            obtain rfl := hmk
            replace h : slices_CompactFunc_Fix_Fix_b2 fnb n2 l6 l10 n11 n12 = some z2 := h
            unfold slices_CompactFunc_Fix_Fix_b2 at h
            refine tS <| tSR <| rM rfl rfl <| rM rfl rfl <| ARun.qv (t_len_sub rfl) rfl <| ARun.qv (q_lss rfl rfl) rfl <| rN <| ATodo.cond_d rfl (fun hc => ?_) (fun hc => ?_)
            · refine have h := iteT hc h; tK <| tS <| ATodo.block <| tS <| ATodo.regionM (id := 11) (A := [0, 0, 0, 6, 14, 0, 0, 64, 224, 480, 1023, 2047]) 10 mixed rfl (by kernel_rfl) (by kernel_rfl) <| AM.qv (q_move rfl) rfl <| AM.qv (q_move rfl) rfl <| AM.qv (q_move rfl) rfl <| bndE h fun v13 e5 h => AM.qv (t_index_sub (L := n2) rfl rfl rfl e5) rfl <| AM.qv (t_load_aptr_agg (g := Fix.av) rfl rfl (.inl .p0) rfl (idxS_some e5).2 rfl) rfl <| AM.qv (q_move rfl) rfl <| AM.qv (q_move rfl) rfl <| AM.qv (q_subw rfl rfl) rfl <| bndE h fun v14 e6 h => AM.qv (t_index_sub (L := n2) rfl rfl rfl e6) rfl <| AM.qv (t_load_aptr_agg (g := Fix.av) rfl rfl (.inl .p0) rfl (idxS_some e6).2 rfl) rfl <| AM.nil <| bndE h fun v15 e7 h => r_callvp rfl rfl (fnb_h e7) (CoL.refl _) rfl <| ARun.qv (q_not rfl) rfl <| rN <| ATodo.cut (fun σ' => ∃ (l16 : List Fix) (n17 : Int), slices_CompactFunc_Fix_Fix_j1 n12 l16 n17 = some z2 ∧ σ' = ⟨66, [(0, .sl 5 b_0 0 l16.length), (1, .func (.func fnb_F) fnb_C), (5, I n17), (6, .sl 5 b_0 n2.toNat l6.length), (7, I n12)], [(b_0, .arr 5 (l16.map Fix.av))]⟩) ?_ ?_
              · refine ATodo.cond rfl (fun hc => ?_) (fun hc => ?_)
                · exact have h := iteT hc h; tSR <| rM rfl rfl <| rM rfl rfl <| rM rfl rfl <| rM rfl rfl <| bndE h fun v18 e8 h => ARun.qv (t_index_sub (L := n2) rfl rfl rfl e8) rfl <| ARun.qv (t_load_aptr_agg (g := Fix.av) rfl rfl (.inl .p0) rfl (idxS_some e8).2 rfl) rfl <| bndE h fun v19 e9 h => ARun.qv (t_index_sl rfl rfl rfl e9) rfl <| t_store_aptr1 (g := Fix.av) (el' := v18) rfl rfl rfl rfl e9 rfl .p0 rfl <| ARun.ghost <| ImpX.eqs (s := 0) (av' := .sl 5 b_0 0 (l10.set n11.toNat v18).length) rfl (by rw [List.length_set]) <| ImpX.here <| ARun.ghost <| ImpX.eqs (s := 50) (av' := .sl 5 b_0 0 (l10.set n11.toNat v18).length) rfl (by rw [List.length_set]) <| ImpX.here <| rN <| tR <| rM rfl rfl <| ARun.qv (q_addw rfl rfl) rfl <| rA rfl rfl <| rN <| ATodo.stop <| ImpX.lq [0] ⟨l10.set n11.toNat v18, w64 (n11 + (1 : Int)), h, rfl⟩ rfl rfl
                · exact have h := iteFb hc h; tK <| ATodo.stop <| ImpX.lq [0] ⟨l10, n11, h, rfl⟩ rfl rfl
              · rintro σ' ⟨l16, n17, h, rfl⟩
                unfold slices_CompactFunc_Fix_Fix_j1 at h
                refine ATodo.blk <| tR <| rM rfl rfl <| ARun.qv (q_addw rfl rfl) rfl <| rA rfl rfl <| rN <| ATodo.stop <| ?_
                obtain rfl := Option.some.inj h
                exact hJ2 _ _ rfl <| ImpX.lq [0] rfl rfl rfl
            · refine have h := iteF hc h; ATodo.exit rfl <| have h := outL h hA2; ?_
              unfold slices_CompactFunc_Fix_Fix_k2 at h
              refine tSR <| rM rfl rfl <| rM rfl rfl <| bndE h fun l20 e10 h => ARun.qv (t_slice_sl rfl rfl (.some _ _ _ rfl) .none rfl rfl e10) rfl <| t_clear (g := Fix.av) (Z := (⟨[], (0 : Int), (0 : Int), (0 : Int), (0 : Int)⟩ : Fix)) (L := n11) rfl rfl rfl rfl rfl rfl e10 .p0 <| ARun.ghost <| ImpX.eqs (s := 0) (av' := .sl 5 b_0 0 (clr l10 n11 l20.length (⟨[], (0 : Int), (0 : Int), (0 : Int), (0 : Int)⟩ : Fix)).length) rfl (congrArg (AV.sl 5 b_0 0) (clr_len e10)) <| ImpX.here <| ARun.ghost <| ImpX.eqs (s := 59) (av' := .sl 5 b_0 0 (clr l10 n11 l20.length (⟨[], (0 : Int), (0 : Int), (0 : Int), (0 : Int)⟩ : Fix)).length) rfl (congrArg (AV.sl 5 b_0 0) (clr_len e10)) <| ImpX.here <| rN <| tSR <| rM rfl rfl <| rM rfl rfl <| bndE h fun l21 e11 h => ARun.qv (t_slice_sl rfl rfl .none (.some _ _ _ rfl) rfl rfl e11) rfl <| rA rfl rfl <| ARun.ghost <| ImpX.takeT e11 .p0 <| ImpX.here <| rN <| ATodo.ret <| have h := outL h hA1; ?_
              obtain rfl := Option.some.inj h
              exact ImpX.here ⟨_, .cons (.tmp _ _ rfl) .nil, _, .cons .p0 .nil, ⟨b_0, rfl, rfl⟩⟩
        · refine have h := iteFb hc h; tK <| ATodo.blk <| tR <| rM rfl rfl <| ARun.qv (q_addw rfl rfl) rfl <| rA rfl rfl <| rN <| ATodo.stop <| ?_
          obtain rfl := Option.some.inj h
          exact hJ1 _ _ rfl <| ImpX.lq [0] rfl rfl rfl
      · refine have h := iteF hc h; ATodo.exit rfl <| have h := outL h hA1; tSR <| rM rfl rfl <| rA rfl rfl <| rN <| ATodo.ret <| ?_
        obtain rfl := Option.some.inj h
        exact ImpX.here ⟨_, .cons (.tmp _ _ rfl) .nil, _, .cons .p0 .nil, ⟨b_0, rfl, rfl⟩⟩

set_option maxHeartbeats 4000000 in
theorem Stream_Odd_c [GI : GTab] {b_0 : Bk} {p0x0 : Fleetmake_Stream} {p1x0 : Int} {p2x0 : Int} {r : Int × Fleetmake_Stream} (h : Stream_Odd p0x0 p1x0 p2x0 = some r) : ACall Tryz.prog 52 [.ptr b_0 0, I p1x0, I p2x0] [(b_0, .cells [.list 1 (p0x0.L.map I), I p0x0.at_])] (T0 ([(b_0, .cells [.list 1 (r.2.L.map I), I r.2.at_])]) (I r.1)) := by
  unfold Stream_Odd at h
  refine ACall.lessH ?_
  refine ACall.bodyN Tryz.func52 rfl Tryz.ntmps52 Tryz.results52 rfl rfl ?_
  refine tSR <| rA rfl rfl <| rN <| tS <| tSR <| rM rfl rfl <| bndE h fun v1 e1 h => t_call0 rfl (Stream_Flip_c e1) (CoL.refl _) (.cons .p0 .nil) rfl rfl <| rN <| ATodo.cond rfl (fun hc => ?_) (fun hc => ?_)
  · refine have h := iteT hc h; tSR <| rM rfl rfl <| rM rfl rfl <| ARun.qv (q_subw rfl rfl) rfl <| rM rfl rfl <| ARun.qv (q_addw rfl rfl) rfl <| rM rfl rfl <| rM rfl rfl <| n_buildSliceL (xs := ([w64 (p1x0 - (1 : Int)), w64 (p2x0 + (1 : Int)), p1x0, p2x0, (-1099511627776 : Int), (1099511627776 : Int)]).map I) rfl rfl rfl rfl rfl rfl <| bndE h fun v2 e2 h => t_call0 rfl (Stream_Pick_c e2) (CoL.refl _) (.cons .p0 .nil) rfl rfl <| rA rfl rfl <| rN <| ATodo.ret <| ?_
    obtain rfl := Option.some.inj h
    exact ImpX.here ⟨_, .cons (.tmp _ _ rfl) .nil, _, .cons .p0 .nil, ⟨rfl, rfl⟩⟩
  · refine have h := iteFb hc h; tK <| tSR <| rM rfl rfl <| rM rfl rfl <| rM rfl rfl <| bndE h fun v3 e3 h => t_call0 rfl (Stream_Range_c e3) (CoL.refl _) (.cons .p0 .nil) rfl rfl <| rA rfl rfl <| rN <| ATodo.ret <| ?_
    obtain rfl := Option.some.inj h
    exact ImpX.here ⟨_, .cons (.tmp _ _ rfl) .nil, _, .cons .p0 .nil, ⟨rfl, rfl⟩⟩

set_option maxHeartbeats 4000000 in
theorem Stream_Fixes_c [GI : GTab] {b_0 : Bk} {p0x0 : Fleetmake_Stream} {p1x0 : Int} {r : (List Fix) × Fleetmake_Stream} (h : Stream_Fixes p0x0 p1x0 = some r) : ACall Tryz.prog 7 [.ptr b_0 0, I p1x0] [(b_0, .cells [.list 1 (p0x0.L.map I), I p0x0.at_])] (T1 (fun d_0 => [(b_0, .cells [.list 1 (r.2.L.map I), I r.2.at_]), (d_0, .arr 5 (r.1.map Fix.av))]) (fun d_0 => .sl 5 d_0 0 r.1.length)) := by
  unfold Stream_Fixes at h
  refine ACall.lessH ?_
  refine ACall.bodyN Tryz.func7 rfl Tryz.ntmps7 Tryz.results7 rfl rfl ?_
  refine tSR <| rA rfl rfl <| rN <| tSR <| rA rfl rfl <| rN <| tS <| tSR <| rM rfl rfl <| rM rfl rfl <| rN <| ATodo.block <| ATodo.loopI (fun x : (List Int) × Int × (List Fix) × Int => Stream_Fixes_b1 p1x0 x.1 x.2.1 x.2.2.1 x.2.2.2) (fun x σ' => ∃ (b8 : Bk), σ' = ⟨68, [(0, .ptr b_0 0), (5, .sl 5 b8 0 x.2.2.1.length), (7, I p1x0), (8, I x.2.2.2)], [(b_0, .cells [.list 1 (x.1.map I), I x.2.1]), (b8, .arr 5 (x.2.2.1.map Fix.av))]⟩) h ?_ ?_
  · exact ImpX.arr (s := 5) 5 rfl fun b11 => ImpX.lq [1, 0] ⟨b11, rfl⟩ rfl rfl
  · intro x z1 σ' J1 hmk h hJ1 hA1
    obtain ⟨l6, n7, l9, n10⟩ := x
    obtain ⟨b8, rfl⟩ := hmk
    replace h : Stream_Fixes_b1 p1x0 l6 n7 l9 n10 = some z1 := h
    unfold Stream_Fixes_b1 at h
    refine tSR <| ARun.qv (q_lss rfl rfl) rfl <| rN <| tS <| ATodo.cond_d rfl (fun hc => ?_) (fun hc => ?_)
    · refine have h := iteT hc h; tK <| tS <| ATodo.block <| tR <| rM rfl rfl <| rM rfl rfl <| n_buildSliceL (xs := ([([100] : Str), ([100] : Str), ([101] : Str)]).map AV.str) rfl rfl rfl rfl rfl rfl <| bndE h fun v12 e1 h => t_call0 rfl (Stream_Some_c e1) (CoL.refl _) (.cons .p0 .nil) rfl rfl <| rM rfl rfl <| n_buildSliceL (xs := ([(0 : Int), (1 : Int), (5 : Int), (10 : Int)]).map I) rfl rfl rfl rfl rfl rfl <| bndE h fun v13 e2 h => t_call0 rfl (Stream_Pick_c e2) (CoL.refl _) (.cons .p0 .nil) rfl rfl <| rM rfl rfl <| n_buildSliceL (xs := ([(0 : Int), (1 : Int)]).map I) rfl rfl rfl rfl rfl rfl <| bndE h fun v14 e3 h => t_call0 rfl (Stream_Pick_c e3) (CoL.refl _) (.cons .p0 .nil) rfl rfl <| rM rfl rfl <| n_buildSliceL (xs := ([(0 : Int), (1 : Int), (2 : Int)]).map I) rfl rfl rfl rfl rfl rfl <| bndE h fun v15 e4 h => t_call0 rfl (Stream_Pick_c e4) (CoL.refl _) (.cons .p0 .nil) rfl rfl <| ARun.qv (n_build rfl rfl rfl rfl rfl) rfl <| n_buildSliceL (xs := ([(⟨v12.1, v13.1, v14.1, v15.1, (0 : Int)⟩ : Fix)]).map Fix.av) rfl rfl rfl rfl rfl rfl <| bndE h fun l16 e5 h => t_append (g := Fix.av) rfl rfl rfl rfl rfl rfl rfl rfl (.list _) e5 (fun _ => .p1) rfl fun b17 => rA rfl rfl <| rN <| ATodo.blk <| tR <| ARun.qv (q_addw rfl rfl) rfl <| rM rfl rfl <| rN <| ATodo.stop <| ?_
      obtain rfl := Option.some.inj h
      exact hJ1 _ _ rfl <| ImpX.lq [0, 0] ⟨b17, rfl⟩ rfl rfl
    · refine have h := iteF hc h; ATodo.exit rfl <| have h := outL h hA1; ?_
      unfold Stream_Fixes_k4 at h
      refine tSR <| rM rfl rfl <| bndE h fun v18 e6 h => t_call0 rfl (slices_SortStableFunc_Fix_Fix_c (fun e => Q_FixOrder_c (Option.some.inj e)) (lenOk_f e6)) (CoL.refl _) (.cons .p1 .nil) rfl rfl <| ARun.ghost <| ImpX.eqs (s := 5) (av' := .sl 5 b8 0 v18.length) rfl (congrArg (AV.sl 5 b8 0) (lenOk_l e6)) <| ImpX.here <| ARun.ghost <| ImpX.eqs (s := 27) (av' := .sl 5 b8 0 v18.length) rfl (congrArg (AV.sl 5 b8 0) (lenOk_l e6)) <| ImpX.here <| rN <| tS <| tSR <| rM rfl rfl <| bndE h fun v19 e7 h => t_call0 rfl (Stream_Flip_c e7) (CoL.refl _) (.cons .p1 .nil) rfl rfl <| ARun.qv (q_not rfl) rfl <| rN <| ATodo.cut (fun σ' => ∃ (b20 : Bk) (l21 : List Fix), Stream_Fixes_j1 v19 l21 = some r ∧ σ' = ⟨68, [(0, .ptr b_0 0), (5, .sl 5 b20 0 l21.length)], [(b_0, .cells [.list 1 (v19.2.L.map I), I v19.2.at_]), (b20, .arr 5 (l21.map Fix.av))]⟩) ?_ ?_
      · refine ATodo.cond rfl (fun hc => ?_) (fun hc => ?_)
        · exact have h := iteT hc h; tR <| rM rfl rfl <| bndE h fun v22 e8 h => t_call1 rfl (slices_CompactFunc_Fix_Fix_c (fun e => Stream_Fixes_1x_c (Option.some.inj e)) e8) (CoL.refl _) (.cons .p1 .nil) (fun _ => rfl) rfl fun b23 => rA rfl rfl <| rN <| ATodo.stop <| ImpX.lq [1, 0] ⟨b23, v22, h, rfl⟩ rfl rfl
        · exact have h := iteFb hc h; tK <| ATodo.stop <| ImpX.lq [0, 0] ⟨b8, v18, h, rfl⟩ rfl rfl
      · rintro σ' ⟨b20, l21, h, rfl⟩
        unfold Stream_Fixes_j1 at h
        refine tS <| tS <| ATodo.cut (fun σ' => ∃ (l24 : List Int) (n25 : Int) (c26 : Bool), Stream_Fixes_j2 l21 l24 n25 c26 = some r ∧ σ' = ⟨68, [(0, .ptr b_0 0), (5, .sl 5 b20 0 l21.length), (40, .bool c26)], [(b_0, .cells [.list 1 (l24.map I), I n25]), (b20, .arr 5 (l21.map Fix.av))]⟩) ?_ ?_
        · refine tR <| rM rfl rfl <| ARun.qv (t_len_sl rfl) rfl <| ARun.qv (q_gtr rfl rfl) rfl <| rM rfl rfl <| ARun.guard_dt rfl rfl rfl (fun hc => ?_) (fun hc => ?_)
          · exact have h := iteT hc h; rM rfl rfl <| rY rfl rfl rfl <| bndE h fun v27 e9 h => t_call0 rfl (Stream_Flip_c e9) (CoL.refl _) (.cons .p0 .nil) rfl rfl <| rT rfl rfl rfl <| rN <| ATodo.stop <| ImpX.lq [0, 0] ⟨v27.2.L, v27.2.at_, v27.1, h, rfl⟩ rfl rfl
          · exact have h := iteF hc h; rG rfl rfl rfl rfl <| rE rfl rfl rfl <| rN <| ATodo.stop <| ImpX.lq [0, 0] ⟨v19.2.L, v19.2.at_, false, h, rfl⟩ rfl rfl
        · rintro σ' ⟨l24, n25, c26, h, rfl⟩
          unfold Stream_Fixes_j2 at h
          refine ATodo.cut (fun σ' => ∃ (l28 : List Int) (n29 : Int) (l30 : List Fix), Stream_Fixes_j3 l28 n29 l30 = some r ∧ σ' = ⟨68, [(5, .sl 5 b20 0 l30.length)], [(b_0, .cells [.list 1 (l28.map I), I n29]), (b20, .arr 5 (l30.map Fix.av))]⟩) ?_ ?_
          · refine ATodo.cond rfl (fun hc => ?_) (fun hc => ?_)
            · exact have h := iteT hc h; tSR <| rM rfl rfl <| rM rfl rfl <| rM rfl rfl <| ARun.qv (t_len_sl rfl) rfl <| bndE h fun v31 e10 h => t_call0 rfl (Stream_Next_c e10) (CoL.refl _) (.cons .p0 .nil) rfl rfl <| bndE h fun v32 e11 h => ARun.qv (t_index_sl rfl rfl rfl e11) rfl <| rA rfl rfl <| rN <| tR <| rM rfl rfl <| rM rfl rfl <| rM rfl rfl <| rM rfl rfl <| rM rfl rfl <| ARun.qv (q_nilCheck_aptr rfl) rfl <| ARun.qv (t_field_aptr rfl rfl) rfl <| ARun.qv (t_load_aptr (g := Fix.av) rfl rfl (.inl .p1) e11 rfl) rfl <| n_buildSliceL (xs := ([v32.Device, ([] : Str), ([65] : Str)]).map AV.str) rfl rfl rfl rfl rfl rfl <| bndE h fun v33 e12 h => t_call0 rfl (Stream_Some_c e12) (CoL.refl _) (.cons .p0 .nil) rfl rfl <| rM rfl rfl <| bndE h fun v34 e13 h => t_call0 rfl (Stream_Odd_c e13) (CoL.refl _) (.cons .p0 .nil) rfl rfl <| rM rfl rfl <| bndE h fun v35 e14 h => t_call0 rfl (Stream_Odd_c e14) (CoL.refl _) (.cons .p0 .nil) rfl rfl <| ARun.qv (q_nilCheck_aptr rfl) rfl <| ARun.qv (t_field_aptr rfl rfl) rfl <| t_store_aptr1 (g := Fix.av) (el' := (⟨v33.1, v32.At, v32.X, v32.Y, v32.Error⟩ : Fix)) rfl rfl rfl rfl e11 rfl .p1 rfl <| ARun.ghost <| ImpX.eqs (s := 5) (av' := .sl 5 b20 0 (l21.set v31.1.toNat (⟨v33.1, v32.At, v32.X, v32.Y, v32.Error⟩ : Fix)).length) rfl (by rw [List.length_set]) <| ImpX.here <| ARun.ghost <| ImpX.eqs (s := 41) (av' := .sl 5 b20 0 (l21.set v31.1.toNat (⟨v33.1, v32.At, v32.X, v32.Y, v32.Error⟩ : Fix)).length) rfl (by rw [List.length_set]) <| ImpX.here <| ARun.ghost <| ImpX.eqs (s := 43) (av' := .sl 5 b20 0 (l21.set v31.1.toNat (⟨v33.1, v32.At, v32.X, v32.Y, v32.Error⟩ : Fix)).length) rfl (by rw [List.length_set]) <| ImpX.here <| ARun.qv (q_nilCheck_aptr rfl) rfl <| ARun.qv (t_field_aptr rfl rfl) rfl <| t_store_aptr1 (g := Fix.av) (el' := (⟨v33.1, v34.1, v32.X, v32.Y, v32.Error⟩ : Fix)) rfl rfl rfl rfl (idx_set_self (v := (⟨v33.1, v32.At, v32.X, v32.Y, v32.Error⟩ : Fix)) e11) rfl .p1 rfl <| ARun.ghost <| ImpX.eqs (s := 5) (av' := .sl 5 b20 0 ((l21.set v31.1.toNat (⟨v33.1, v32.At, v32.X, v32.Y, v32.Error⟩ : Fix)).set v31.1.toNat (⟨v33.1, v34.1, v32.X, v32.Y, v32.Error⟩ : Fix)).length) rfl (by rw [List.length_set]) <| ImpX.here <| ARun.ghost <| ImpX.eqs (s := 41) (av' := .sl 5 b20 0 ((l21.set v31.1.toNat (⟨v33.1, v32.At, v32.X, v32.Y, v32.Error⟩ : Fix)).set v31.1.toNat (⟨v33.1, v34.1, v32.X, v32.Y, v32.Error⟩ : Fix)).length) rfl (by rw [List.length_set]) <| ImpX.here <| ARun.ghost <| ImpX.eqs (s := 43) (av' := .sl 5 b20 0 ((l21.set v31.1.toNat (⟨v33.1, v32.At, v32.X, v32.Y, v32.Error⟩ : Fix)).set v31.1.toNat (⟨v33.1, v34.1, v32.X, v32.Y, v32.Error⟩ : Fix)).length) rfl (by rw [List.length_set]) <| ImpX.here <| ARun.qv (q_nilCheck_aptr rfl) rfl <| ARun.qv (t_field_aptr rfl rfl) rfl <| t_store_aptr1 (g := Fix.av) (el' := (⟨v33.1, v34.1, v32.X, v35.1, v32.Error⟩ : Fix)) rfl rfl rfl rfl (idx_set_self (v := (⟨v33.1, v34.1, v32.X, v32.Y, v32.Error⟩ : Fix)) (idx_set_self (v := (⟨v33.1, v32.At, v32.X, v32.Y, v32.Error⟩ : Fix)) e11)) rfl .p1 rfl <| ARun.ghost <| ImpX.eqs (s := 5) (av' := .sl 5 b20 0 (((l21.set v31.1.toNat (⟨v33.1, v32.At, v32.X, v32.Y, v32.Error⟩ : Fix)).set v31.1.toNat (⟨v33.1, v34.1, v32.X, v32.Y, v32.Error⟩ : Fix)).set v31.1.toNat (⟨v33.1, v34.1, v32.X, v35.1, v32.Error⟩ : Fix)).length) rfl (by rw [List.length_set]) <| ImpX.here <| ARun.ghost <| ImpX.eqs (s := 41) (av' := .sl 5 b20 0 (((l21.set v31.1.toNat (⟨v33.1, v32.At, v32.X, v32.Y, v32.Error⟩ : Fix)).set v31.1.toNat (⟨v33.1, v34.1, v32.X, v32.Y, v32.Error⟩ : Fix)).set v31.1.toNat (⟨v33.1, v34.1, v32.X, v35.1, v32.Error⟩ : Fix)).length) rfl (by rw [List.length_set]) <| ImpX.here <| ARun.ghost <| ImpX.eqs (s := 43) (av' := .sl 5 b20 0 (((l21.set v31.1.toNat (⟨v33.1, v32.At, v32.X, v32.Y, v32.Error⟩ : Fix)).set v31.1.toNat (⟨v33.1, v34.1, v32.X, v32.Y, v32.Error⟩ : Fix)).set v31.1.toNat (⟨v33.1, v34.1, v32.X, v35.1, v32.Error⟩ : Fix)).length) rfl (by rw [List.length_set]) <| ImpX.here <| rN <| ATodo.stop <| ImpX.lq [0, 0] ⟨v35.2.L, v35.2.at_, ((l21.set v31.1.toNat (⟨v33.1, v32.At, v32.X, v32.Y, v32.Error⟩ : Fix)).set v31.1.toNat (⟨v33.1, v34.1, v32.X, v32.Y, v32.Error⟩ : Fix)).set v31.1.toNat (⟨v33.1, v34.1, v32.X, v35.1, v32.Error⟩ : Fix), h, rfl⟩ rfl rfl
            · exact have h := iteFb hc h; tK <| ATodo.stop <| ImpX.lq [0, 0] ⟨l24, n25, l21, h, rfl⟩ rfl rfl
          · rintro σ' ⟨l28, n29, l30, h, rfl⟩
            unfold Stream_Fixes_j3 at h
            refine tSR <| rM rfl rfl <| rA rfl rfl <| rN <| ATodo.ret <| ?_
            obtain rfl := Option.some.inj h
            exact ImpX.here ⟨_, .cons (.tmp _ _ rfl) .nil, _, .cons .p0 (.cons .p0 .nil), ⟨b20, rfl, rfl⟩⟩

set_option maxHeartbeats 4000000 in
theorem Q_in_c [GI : GTab] {p0x0 : Int} {p1x0 : Int} {p2x0 : Int} {r : Bool} (h : Q_in p0x0 p1x0 p2x0 = r) : Pu Tryz.prog 63 [I p0x0, I p1x0, I p2x0] (.bool r) := by
  unfold Q_in at h
  refine ACall.bodyN Tryz.func63 rfl Tryz.ntmps63 Tryz.results63 rfl rfl ?_
  refine tSR <| rA rfl rfl <| rN <| tS <| ATodo.cut (fun σ' => ∃ (c1 : Bool), Q_in_j1 c1 = r ∧ σ' = ⟨15, [(6, .bool c1)], []⟩) ?_ ?_
  · refine tR <| rM rfl rfl <| rM rfl rfl <| ARun.qv (q_leq rfl rfl) rfl <| rM rfl rfl <| ARun.guard_dt rfl rfl rfl (fun hc => ?_) (fun hc => ?_)
    · rw [andTd hc] at h
      exact rM rfl rfl <| rY rfl rfl rfl <| rM rfl rfl <| rY rfl rfl rfl <| ARun.qv (q_leq rfl rfl) rfl <| rT rfl rfl rfl <| rA rfl rfl <| rN <| ATodo.stop <| ImpX.lq [] ⟨decide (p0x0 ≤ p2x0), h, rfl⟩ rfl rfl
    · rw [andFd hc] at h
      exact rG rfl rfl rfl rfl <| rG rfl rfl rfl rfl <| rE rfl rfl rfl <| rA rfl rfl <| rN <| ATodo.stop <| ImpX.lq [] ⟨false, h, rfl⟩ rfl rfl
  · rintro σ' ⟨c1, h, rfl⟩
    unfold Q_in_j1 at h
    refine ATodo.ret <| ?_
    obtain rfl := h
    exact ImpX.here ⟨_, .cons (.tmp _ _ rfl) .nil, rfl⟩

set_option maxHeartbeats 4000000 in
theorem Q_only_c [GI : GTab] {p0x0 : Str} {p1x0 : Str} {r : Bool} (h : Q_only p0x0 p1x0 = some r) : Pu Tryz.prog 126 [.str p0x0, .str p1x0] (.bool r) := by
  unfold Q_only at h
  refine ACall.bodyN Tryz.func126 rfl Tryz.ntmps126 Tryz.results126 rfl rfl ?_
  refine tSR <| rA rfl rfl <| rN <| tS <| tSR <| rM rfl rfl <| ARun.qv (q_len_str rfl) rfl <| rM rfl rfl <| rN <| ATodo.block <| ATodo.loopI (fun x : Int => Q_only_b1 p0x0 p1x0 x) (fun x σ' => σ' = ⟨18, [(0, .str p0x0), (1, .str p1x0), (7, I (p0x0.length : Int)), (8, I x)], []⟩) h ?_ ?_
  · exact ImpX.lq [] rfl rfl rfl
  · intro n2 z1 σ' J1 hmk h hJ1 hA1
    obtain rfl := hmk
    replace h : Q_only_b1 p0x0 p1x0 n2 = some z1 := h
    unfold Q_only_b1 at h
    refine tSR <| ARun.qv (q_lss rfl rfl) rfl <| rN <| tS <| ATodo.cond_d rfl (fun hc => ?_) (fun hc => ?_)
    · refine have h := iteT hc h; tK <| tS <| ATodo.block <| tSR <| rM rfl rfl <| rA rfl rfl <| rN <| tSR <| rM rfl rfl <| rM rfl rfl <| rM rfl rfl <| bndE h fun c3 e1 h => ARun.qv (t_index_str rfl rfl e1) rfl <| r_callp rfl (strings_IndexByte_c rfl) (CoL.refl _) rfl <| ARun.qv (q_lss rfl rfl) rfl <| rN <| ATodo.cond_d rfl (fun hc => ?_) (fun hc => ?_)
      · refine have h := iteT hc h; tSR <| rA rfl rfl <| rN <| ATodo.ret <| have h := outL h hA1; ?_
        obtain rfl := Option.some.inj h
        exact ImpX.here ⟨_, .cons (.tmp _ _ rfl) .nil, rfl⟩
      · refine have h := iteF hc h; tK <| ATodo.blk <| tR <| ARun.qv (q_addw rfl rfl) rfl <| rM rfl rfl <| rN <| ATodo.stop <| ?_
        obtain rfl := Option.some.inj h
        exact hJ1 _ _ rfl <| ImpX.lq [] rfl rfl rfl
    · refine have h := iteF hc h; ATodo.exit rfl <| have h := outL h hA1; tSR <| rA rfl rfl <| rN <| ATodo.ret <| ?_
      obtain rfl := Option.some.inj h
      exact ImpX.here ⟨_, .cons (.tmp _ _ rfl) .nil, rfl⟩

set_option maxHeartbeats 4000000 in
theorem Q_Key_c [GI : GTab] {p0x0 : Str} {r : Bool} (h : Q_Key p0x0 = some r) : Pu Tryz.prog 59 [.str p0x0] (.bool r) := by
  unfold Q_Key at h
  refine ACall.bodyN Tryz.func59 rfl Tryz.ntmps59 Tryz.results59 rfl rfl ?_
  refine tSR <| rA rfl rfl <| rN <| tS <| ATodo.cut (fun σ' => ∃ (c1 : Bool), Q_Key_j1 c1 = some r ∧ σ' = ⟨15, [(2, .bool c1)], []⟩) ?_ ?_
  · refine tR <| rM rfl rfl <| ARun.qv (q_len_str rfl) rfl <| r_callp rfl (Q_in_c rfl) (CoL.refl _) rfl <| rM rfl rfl <| ARun.guard rfl rfl rfl (fun hc => ?_) (fun hc => ?_)
    · refine have h := iteT hc h; rM rfl rfl <| rY rfl rfl rfl <| bndE h fun l2 e1 h => ARun.qv (t_slice_str rfl .none (.some _ _ _ rfl) rfl rfl e1) rfl <| rY rfl rfl rfl <| bndE h fun v3 e2 h => r_callp rfl (Q_only_c e2) (CoL.refl _) rfl <| rT rfl rfl rfl <| rM rfl rfl <| ARun.guard rfl rfl rfl (fun hc => ?_) (fun hc => ?_)
      · exact have h := iteT hc h; rM rfl rfl <| rY rfl rfl rfl <| bndE h fun v4 e3 h => r_callp rfl (Q_only_c e3) (CoL.refl _) rfl <| rT rfl rfl rfl <| rA rfl rfl <| rN <| ATodo.stop <| ImpX.lq [] ⟨v4, h, rfl⟩ rfl rfl
      · exact have h := iteFb hc h; rG rfl rfl rfl rfl <| rE rfl rfl rfl <| rA rfl rfl <| rN <| ATodo.stop <| ImpX.lq [] ⟨false, h, rfl⟩ rfl rfl
    · exact have h := iteFb hc h; rG rfl rfl rfl rfl <| rG rfl rfl rfl rfl <| rE rfl rfl rfl <| rM rfl rfl <| rG rfl rfl rfl rfl <| rG rfl rfl rfl rfl <| rE rfl rfl rfl <| rA rfl rfl <| rN <| ATodo.stop <| ImpX.lq [] ⟨false, h, rfl⟩ rfl rfl
  · rintro σ' ⟨c1, h, rfl⟩
    unfold Q_Key_j1 at h
    refine ATodo.ret <| ?_
    obtain rfl := Option.some.inj h
    exact ImpX.here ⟨_, .cons (.tmp _ _ rfl) .nil, rfl⟩

set_option maxHeartbeats 4000000 in
theorem Q_Moment_c [GI : GTab] {p0x0 : Int} {r : Bool} (h : Q_Moment p0x0 = r) : Pu Tryz.prog 60 [I p0x0] (.bool r) := by
  unfold Q_Moment at h
  refine ACall.bodyN Tryz.func60 rfl Tryz.ntmps60 Tryz.results60 rfl rfl ?_
  refine tSR <| rA rfl rfl <| rN <| tSR <| rM rfl rfl <| r_callp rfl (Q_in_c rfl) (CoL.refl _) rfl <| rA rfl rfl <| rN <| ATodo.ret <| ?_
  obtain rfl := h
  exact ImpX.here ⟨_, .cons (.tmp _ _ rfl) .nil, rfl⟩

set_option maxHeartbeats 4000000 in
theorem Q_spotOf_c [GI : GTab] {p0x0 : Fix} {r : Spot} (h : Q_spotOf p0x0 = r) : Pu Tryz.prog 62 [.agg [.str p0x0.Device, I p0x0.At, I p0x0.X, I p0x0.Y, I p0x0.Error]] (.agg [I r.X, I r.Y]) := by
  unfold Q_spotOf at h
  refine ACall.bodyN Tryz.func62 rfl Tryz.ntmps62 Tryz.results62 rfl rfl ?_
  refine tSR <| n_box rfl rfl rfl rfl fun b1 => n_alloc rfl rfl rfl rfl fun b2 => rN <| tSR <| rF rfl rfl rfl <| rL rfl rfl .p1 rfl rfl <| rF rfl rfl rfl <| rL rfl rfl .p1 rfl rfl <| ARun.qv (n_build rfl rfl rfl rfl rfl) rfl <| n_store_ptr rfl rfl rfl rfl .p0 rfl rfl <| rN <| ATodo.ret <| ?_
  obtain rfl := h
  exact ImpX.here ⟨_, .cons (.all _ _ _ _ _ _ rfl .p0 TUnder.h TInfo.h rfl rfl) .nil, rfl⟩

set_option maxHeartbeats 4000000 in
theorem Q_SpotFault_c [GI : GTab] {p0x0 : Spot} {r : Int} (h : Q_SpotFault p0x0 = r) : Pu Tryz.prog 61 [.agg [I p0x0.X, I p0x0.Y]] (I r) := by
  unfold Q_SpotFault at h
  refine ACall.bodyN Tryz.func61 rfl Tryz.ntmps61 Tryz.results61 rfl rfl ?_
  refine tSR <| n_box rfl rfl rfl rfl fun b1 => rA rfl rfl <| rN <| tS <| tS <| ATodo.cut (fun σ' => ∃ (c2 : Bool), Q_SpotFault_j1 c2 = r ∧ σ' = ⟨13, [(12, .bool c2)], []⟩) ?_ ?_
  · refine tR <| rF rfl rfl rfl <| rL rfl rfl .p0 rfl rfl <| r_callp rfl (Q_in_c rfl) (CoL.refl _) rfl <| ARun.qv (q_not rfl) rfl <| rM rfl rfl <| ARun.guard rfl rfl rfl (fun hc => ?_) (fun hc => ?_)
    · rw [orFb hc] at h
      exact rF rfl rfl rfl <| rY rfl rfl rfl <| rL rfl rfl .p0 rfl rfl <| rY rfl rfl rfl <| r_callp rfl (Q_in_c rfl) (CoL.refl _) rfl <| rY rfl rfl rfl <| ARun.qv (q_not rfl) rfl <| rE rfl rfl rfl <| rN <| ATodo.stop <| ImpX.lq [] ⟨!(Q_in p0x0.Y (-10000 : Int) (10000 : Int)), h, rfl⟩ rfl rfl
    · rw [orTb hc] at h
      exact rG rfl rfl rfl rfl <| rG rfl rfl rfl rfl <| rG rfl rfl rfl rfl <| rT rfl rfl rfl <| rN <| ATodo.stop <| ImpX.lq [] ⟨true, h, rfl⟩ rfl rfl
  · rintro σ' ⟨c2, h, rfl⟩
    unfold Q_SpotFault_j1 at h
    refine ATodo.cond rfl (fun hc => ?_) (fun hc => ?_)
    · refine have h := iteT hc h; tSR <| rA rfl rfl <| rN <| ATodo.ret <| ?_
      obtain rfl := h
      exact ImpX.here ⟨_, .cons (.tmp _ _ rfl) .nil, rfl⟩
    · refine have h := iteFb hc h; tK <| tSR <| rA rfl rfl <| rN <| ATodo.ret <| ?_
      obtain rfl := h
      exact ImpX.here ⟨_, .cons (.tmp _ _ rfl) .nil, rfl⟩

set_option maxHeartbeats 4000000 in
theorem Q_FixesFault_c [GI : GTab] {p0x0 : List Fix} {r : Int} (h : Q_FixesFault p0x0 = some r) : Pu Tryz.prog 11 [.list 5 (p0x0.map Fix.av)] (I r) := by
  unfold Q_FixesFault at h
  refine ACall.bodyN Tryz.func11 rfl Tryz.ntmps11 Tryz.results11 rfl rfl ?_
  refine tSR <| rA rfl rfl <| rN <| tS <| tSR <| rM rfl rfl <| ARun.qv (t_len rfl) rfl <| ARun.qv (q_gtr rfl rfl) rfl <| rN <| ATodo.cond_d rfl (fun hc => ?_) (fun hc => ?_)
  · refine have h := iteT hc h; tSR <| rA rfl rfl <| rN <| ATodo.ret <| ?_
    obtain rfl := Option.some.inj h
    exact ImpX.here ⟨_, .cons (.tmp _ _ rfl) .nil, rfl⟩
  · refine have h := iteF hc h; tK <| tS <| tSR <| rM rfl rfl <| ARun.qv (t_len rfl) rfl <| rM rfl rfl <| rN <| ATodo.block <| ATodo.loopI (fun x : Int => Q_FixesFault_b1 p0x0 x) (fun x σ' => σ' = ⟨51, [(0, .list 5 (p0x0.map Fix.av)), (8, .list 5 (p0x0.map Fix.av)), (9, I (p0x0.length : Int)), (10, I x)], []⟩) h ?_ ?_
    · exact ImpX.lq [] rfl rfl rfl
    · intro n2 z1 σ' J1 hmk h hJ1 hA1
      obtain rfl := hmk
      replace h : Q_FixesFault_b1 p0x0 n2 = some z1 := h
      unfold Q_FixesFault_b1 at h
      refine tSR <| ARun.qv (q_lss rfl rfl) rfl <| rN <| tS <| ATodo.cond_d rfl (fun hc => ?_) (fun hc => ?_)
      · refine have h := iteT hc h; tK <| tS <| ATodo.block <| tSR <| rM rfl rfl <| bndE h fun v3 e1 h => ARun.qv (t_index rfl rfl rfl e1 rfl rfl) rfl <| ARun.qv (q_load_rptr_agg rfl rfl rfl) rfl <| n_alloc rfl rfl rfl rfl fun b4 => rA rfl rfl <| n_store_ptr rfl rfl rfl rfl .p0 rfl rfl <| rN <| ATodo.block <| tSR <| rF rfl rfl rfl <| rL rfl rfl .p0 rfl rfl <| bndE h fun v5 e2 h => r_callp rfl (Q_Key_c e2) (CoL.refl _) rfl <| ARun.qv (q_not rfl) rfl <| rA rfl rfl <| rN <| ATodo.cond rfl (fun hc => ?_) (fun hc => ?_)
        · refine have h := iteT hc h; tSR <| rA rfl rfl <| rN <| ATodo.ret <| have h := outL h hA1; ?_
          obtain rfl := Option.some.inj h
          exact ImpX.here ⟨_, .cons (.tmp _ _ rfl) .nil, rfl⟩
        · refine have h := iteFb hc h; tS <| ATodo.cut (fun σ' => ∃ (c6 : Bool), Q_FixesFault_j1 p0x0 n2 v3 c6 = some z1 ∧ σ' = ⟨51, [(0, .list 5 (p0x0.map Fix.av)), (3, I n2), (4, .ptr b4 0), (8, .list 5 (p0x0.map Fix.av)), (9, I (p0x0.length : Int)), (10, I n2), (20, .bool c6)], [(b4, .cells [.str v3.Device, I v3.At, I v3.X, I v3.Y, I v3.Error])]⟩) ?_ ?_
          · refine tR <| rF rfl rfl rfl <| rL rfl rfl .p0 rfl rfl <| r_callp rfl (Q_Moment_c rfl) (CoL.refl _) rfl <| ARun.qv (q_not rfl) rfl <| rM rfl rfl <| ARun.guard rfl rfl rfl (fun hc => ?_) (fun hc => ?_)
            · rw [orFb hc] at h
              refine ARun.qv (q_load_ptr_all rfl rfl .p0 rfl) rfl <| rY rfl rfl rfl <| r_callp rfl (Q_spotOf_c rfl) (CoL.refl _) rfl <| rY rfl rfl rfl <| r_callp rfl (Q_SpotFault_c rfl) (CoL.refl _) rfl <| rY rfl rfl rfl <| ARun.qv (q_neq rfl rfl) rfl <| rE rfl rfl rfl <| rM rfl rfl <| ARun.guard_df rfl rfl rfl (fun hc => ?_) (fun hc => ?_)
              · rw [orFd hc] at h
                exact rF rfl rfl rfl <| rY rfl rfl rfl <| rL rfl rfl .p0 rfl rfl <| rY rfl rfl rfl <| r_callp rfl (Q_in_c rfl) (CoL.refl _) rfl <| rY rfl rfl rfl <| ARun.qv (q_not rfl) rfl <| rE rfl rfl rfl <| rA rfl rfl <| rN <| ATodo.stop <| ImpX.lq [0] ⟨!(Q_in v3.Error (0 : Int) (10000 : Int)), h, rfl⟩ rfl rfl
              · rw [orTd hc] at h
                exact rG rfl rfl rfl rfl <| rG rfl rfl rfl rfl <| rG rfl rfl rfl rfl <| rT rfl rfl rfl <| rA rfl rfl <| rN <| ATodo.stop <| ImpX.lq [0] ⟨true, h, rfl⟩ rfl rfl
            · rw [orTb hc] at h
              exact rG rfl rfl rfl rfl <| rG rfl rfl rfl rfl <| rG rfl rfl rfl rfl <| rT rfl rfl rfl <| rM rfl rfl <| rG rfl rfl rfl rfl <| rG rfl rfl rfl rfl <| rG rfl rfl rfl rfl <| rG rfl rfl rfl rfl <| rT rfl rfl rfl <| rA rfl rfl <| rN <| ATodo.stop <| ImpX.lq [0] ⟨true, h, rfl⟩ rfl rfl
          · rintro σ' ⟨c6, h, rfl⟩
            unfold Q_FixesFault_j1 at h
            refine ATodo.cond rfl (fun hc => ?_) (fun hc => ?_)
            · refine have h := iteT hc h; tSR <| rA rfl rfl <| rN <| ATodo.ret <| have h := outL h hA1; ?_
              obtain rfl := Option.some.inj h
              exact ImpX.here ⟨_, .cons (.tmp _ _ rfl) .nil, rfl⟩
            · refine have h := iteFb hc h; tS <| ATodo.cut (fun σ' => ∃ (c7 : Bool), Q_FixesFault_j2 n2 c7 = some z1 ∧ σ' = ⟨51, [(0, .list 5 (p0x0.map Fix.av)), (8, .list 5 (p0x0.map Fix.av)), (9, I (p0x0.length : Int)), (10, I n2), (37, .bool c7)], []⟩) ?_ ?_
              · refine ATodo.regionM (id := 10) (A := [0, 1, 3, 7, 7, 23, 63, 127, 7, 511, 1023, 2047, 4095]) 13 mixed rfl (by kernel_rfl) (by kernel_rfl) <| AM.qv (q_move rfl) rfl <| AM.qv (q_gtr rfl rfl) rfl <| AM.qv (q_move rfl) rfl <| AM.guard_dt rfl rfl rfl (fun hc => ?_) (fun hc => ?_)
                · exact have h := iteT hc h; AM.qv (q_move rfl) rfl <| AM.guard_yes rfl rfl rfl <| AM.qv (q_move rfl) rfl <| AM.guard_yes rfl rfl rfl <| AM.qv (q_subw rfl rfl) rfl <| AM.guard_yes rfl rfl rfl <| bndE h fun v8 e3 h => AM.qv (t_index rfl rfl rfl e3 rfl rfl) rfl <| AM.guard_yes rfl rfl rfl <| AM.qv (q_load_rptr_agg rfl rfl rfl) rfl <| AM.guard_yes rfl rfl rfl <| AM.qv (q_load_ptr_all rfl rfl .p0 rfl) rfl <| AM.guard_yes rfl rfl rfl <| AM.callp rfl (Q_FixOrder_c rfl) (CoL.refl _) rfl <| AM.guard_yes rfl rfl rfl <| AM.qv (q_geq rfl rfl) rfl <| AM.qv (q_pick_t rfl rfl) rfl <| AM.qv (q_assign rfl) rfl <| AM.nil <| rN <| ATodo.stop <| ImpX.lq [] ⟨decide ((0 : Int) ≤ (Q_FixOrder v8 v3)), h, rfl⟩ rfl rfl
                · exact have h := iteF hc h; AM.guard_no rfl rfl rfl rfl <| AM.guard_no rfl rfl rfl rfl <| AM.guard_no rfl rfl rfl rfl <| AM.guard_no rfl rfl rfl rfl <| AM.guard_no rfl rfl rfl rfl <| AM.guard_no rfl rfl rfl rfl <| AM.guard_no rfl rfl rfl rfl <| AM.qv (q_pick_f rfl rfl) rfl <| AM.qv (q_assign rfl) rfl <| AM.nil <| rN <| ATodo.stop <| ImpX.lq [] ⟨false, h, rfl⟩ rfl rfl
              · rintro σ' ⟨c7, h, rfl⟩
                unfold Q_FixesFault_j2 at h
                refine ATodo.cond rfl (fun hc => ?_) (fun hc => ?_)
                · refine have h := iteT hc h; tSR <| rA rfl rfl <| rN <| ATodo.ret <| have h := outL h hA1; ?_
                  obtain rfl := Option.some.inj h
                  exact ImpX.here ⟨_, .cons (.tmp _ _ rfl) .nil, rfl⟩
                · refine have h := iteFb hc h; tK <| ATodo.blk <| ATodo.blk <| tR <| ARun.qv (q_addw rfl rfl) rfl <| rM rfl rfl <| rN <| ATodo.stop <| ?_
                  obtain rfl := Option.some.inj h
                  exact hJ1 _ _ rfl <| ImpX.lq [] rfl rfl rfl
      · refine have h := iteF hc h; ATodo.exit rfl <| have h := outL h hA1; tSR <| rA rfl rfl <| rN <| ATodo.ret <| ?_
        obtain rfl := Option.some.inj h
        exact ImpX.here ⟨_, .cons (.tmp _ _ rfl) .nil, rfl⟩

set_option maxHeartbeats 4000000 in
theorem strings_Join_c {p0x0 : List Str} {p1x0 : Str} {r : Str} (h : strings_Join p0x0 p1x0 = some r) : Pu Tryz.prog 64 [.list 1 (p0x0.map AV.str), .str p1x0] (.str r) := by
  unfold strings_Join at h
  refine ACall.bodyN Tryz.func64 rfl Tryz.ntmps64 Tryz.results64 rfl rfl ?_
  refine tSR <| rA rfl rfl <| rN <| tS <| tSR <| rM rfl rfl <| ARun.qv (t_len rfl) rfl <| rN <| ATodo.block <| tSR <| ARun.qv (q_eql rfl rfl) rfl <| rA rfl rfl <| rN <| ATodo.cond_d rfl (fun hc => ?_) (fun hc => ?_)
  · refine have h := iteT hc h; tSR <| rA rfl rfl <| rN <| ATodo.ret <| ?_
    obtain rfl := Option.some.inj h
    exact ImpX.here ⟨_, .cons (.tmp _ _ rfl) .nil, rfl⟩
  · refine have h := iteF hc h; tSR <| ARun.qv (q_eql rfl rfl) rfl <| rA rfl rfl <| rN <| ATodo.cond_d rfl (fun hc => ?_) (fun hc => ?_)
    · refine have h := iteT hc h; tSR <| rM rfl rfl <| bndE h fun v1 e1 h => ARun.qv (t_index rfl rfl rfl e1 rfl rfl) rfl <| ARun.qv (q_load_rptr rfl rfl rfl) rfl <| rA rfl rfl <| rN <| ATodo.ret <| ?_
      obtain rfl := Option.some.inj h
      exact ImpX.here ⟨_, .cons (.tmp _ _ rfl) .nil, rfl⟩
    · refine have h := iteF hc h; tK <| ATodo.blk <| tSR <| rA rfl rfl <| rN <| tS <| tSR <| rM rfl rfl <| ARun.qv (q_len_str rfl) rfl <| ARun.qv (q_gtr rfl rfl) rfl <| rN <| ATodo.cut (fun σ' => ∃ (n2 : Int), strings_Join_j1 p0x0 p1x0 n2 = some r ∧ σ' = ⟨75, [(0, .list 1 (p0x0.map AV.str)), (1, .str p1x0), (5, I n2)], []⟩) ?_ ?_
      · refine ATodo.cond_d rfl (fun hc => ?_) (fun hc => ?_)
        · refine have h := iteT hc h; tS <| tSR <| rM rfl rfl <| ARun.qv (q_len_str rfl) rfl <| rM rfl rfl <| ARun.qv (t_len rfl) rfl <| ARun.qv (q_subw rfl rfl) rfl <| bndE h fun n3 e2 h => ARun.qv (t_quoS rfl rfl e2) rfl <| ARun.qv (q_geq rfl rfl) rfl <| rN <| ATodo.cond_d rfl (fun hc => ?_) (fun hc => ?_)
          · refine have h := iteT hc h; tR <| ?_
            cases h
          · exact have h := iteF hc h; tK <| tR <| rM rfl rfl <| rM rfl rfl <| ARun.qv (q_len_str rfl) rfl <| rM rfl rfl <| ARun.qv (t_len rfl) rfl <| ARun.qv (q_subw rfl rfl) rfl <| ARun.qv (q_mulw rfl rfl) rfl <| ARun.qv (q_addw rfl rfl) rfl <| rA rfl rfl <| rN <| ATodo.stop <| ImpX.lq [] ⟨w64 ((0 : Int) + (w64 ((p1x0.length : Int) * (w64 ((p0x0.length : Int) - (1 : Int)))))), h, rfl⟩ rfl rfl
        · exact have h := iteF hc h; tK <| ATodo.stop <| ImpX.lq [] ⟨(0 : Int), h, rfl⟩ rfl rfl
      · rintro σ' ⟨n2, h, rfl⟩
        unfold strings_Join_j1 at h
        refine tS <| tSR <| rM rfl rfl <| ARun.qv (t_len rfl) rfl <| rM rfl rfl <| rN <| ATodo.block <| ATodo.loopI (fun x : Int × Int => strings_Join_b1 p0x0 p1x0 x.1 x.2) (fun x σ' => σ' = ⟨75, [(0, .list 1 (p0x0.map AV.str)), (1, .str p1x0), (5, I x.1), (39, .list 1 (p0x0.map AV.str)), (40, I (p0x0.length : Int)), (41, I x.2)], []⟩) h ?_ ?_
        · exact ImpX.lq [] rfl rfl rfl
        · intro x z1 σ' J1 hmk h hJ1 hA1
          obtain ⟨n6, n7⟩ := x
          obtain rfl := hmk
          replace h : strings_Join_b1 p0x0 p1x0 n6 n7 = some z1 := h
          unfold strings_Join_b1 at h
          refine tSR <| ARun.qv (q_lss rfl rfl) rfl <| rN <| tS <| ATodo.cond_d rfl (fun hc => ?_) (fun hc => ?_)
          · refine have h := iteT hc h; tK <| tS <| ATodo.block <| tSR <| bndE h fun v8 e3 h => ARun.qv (t_index rfl rfl rfl e3 rfl rfl) rfl <| ARun.qv (q_load_rptr rfl rfl rfl) rfl <| rA rfl rfl <| rN <| tS <| tSR <| rM rfl rfl <| ARun.qv (q_len_str rfl) rfl <| rM rfl rfl <| ARun.qv (q_subw rfl rfl) rfl <| ARun.qv (q_gtr rfl rfl) rfl <| rN <| ATodo.cond_d rfl (fun hc => ?_) (fun hc => ?_)
            · refine have h := iteT hc h; tR <| ?_
              cases h
            · refine have h := iteF hc h; tK <| tR <| rM rfl rfl <| rM rfl rfl <| ARun.qv (q_len_str rfl) rfl <| ARun.qv (q_addw rfl rfl) rfl <| rA rfl rfl <| rN <| ATodo.blk <| tR <| ARun.qv (q_addw rfl rfl) rfl <| rM rfl rfl <| rN <| ATodo.stop <| ?_
              obtain rfl := Option.some.inj h
              exact hJ1 _ _ rfl <| ImpX.lq [] rfl rfl rfl
          · refine have h := iteF hc h; ATodo.exit rfl <| have h := outL h hA1; ?_
            unfold strings_Join_k2 at h
            refine tSR <| n_allocB 5 rfl rfl fun b9 => rN <| tSR <| rM rfl rfl <| bndE h fun v10 e4 h => t_call1 rfl (strings_Builder_Grow_c e4) (CoL.refl _) (.cons .p0 .nil) (fun _ => rfl) rfl fun b11 => rN <| tSR <| rM rfl rfl <| bndE h fun v12 e5 h => ARun.qv (t_index rfl rfl rfl e5 rfl rfl) rfl <| ARun.qv (q_load_rptr rfl rfl rfl) rfl <| bndE h fun q13 e6 h => t_call1 rfl (strings_Builder_WriteString_c e6) (CoL.refl _) (.cons .p0 .nil) (fun _ => rfl) rfl fun b14 => rN <| tS <| tSR <| rM rfl rfl <| bndE h fun l15 e7 h => ARun.qv (t_slice_list rfl rfl (.some _ _ _ rfl) .none rfl rfl e7) rfl <| ARun.qv (t_len rfl) rfl <| rM rfl rfl <| rN <| ATodo.block <| ATodo.loopI (fun x : Str × Int => strings_Join_b2 p1x0 l15 x.1 x.2) (fun x σ' => ∃ (b20 : Bk), σ' = ⟨75, [(1, .str p1x0), (8, .ptr b9 0), (63, .list 1 (l15.map AV.str)), (64, I (l15.length : Int)), (65, I x.2)], [(b9, .bld 93 5 b20.blk x.1)]⟩) h ?_ ?_
            · exact ImpX.lq [0] ⟨b14, rfl⟩ rfl rfl
            · intro x z2 σ' J2 hmk h hJ2 hA2
              obtain ⟨q19, n21⟩ := x
              obtain ⟨b20, rfl⟩ := hmk
              replace h : strings_Join_b2 p1x0 l15 q19 n21 = some z2 := h
              unfold strings_Join_b2 at h
              refine tSR <| ARun.qv (q_lss rfl rfl) rfl <| rN <| tS <| ATodo.cond_d rfl (fun hc => ?_) (fun hc => ?_)
              · refine have h := iteT hc h; tK <| tS <| ATodo.block <| tSR <| bndE h fun v22 e8 h => ARun.qv (t_index rfl rfl rfl e8 rfl rfl) rfl <| ARun.qv (q_load_rptr rfl rfl rfl) rfl <| rA rfl rfl <| rN <| tSR <| rM rfl rfl <| bndE h fun q23 e9 h => t_call1 rfl (strings_Builder_WriteString_c e9) (CoL.refl _) (.cons .p0 .nil) (fun _ => rfl) rfl fun b24 => rN <| tR <| rM rfl rfl <| bndE h fun q25 e10 h => t_call1 rfl (strings_Builder_WriteString_c e10) (CoL.refl _) (.cons .p0 .nil) (fun _ => rfl) rfl fun b26 => rN <| ATodo.blk <| tR <| ARun.qv (q_addw rfl rfl) rfl <| rM rfl rfl <| rN <| ATodo.stop <| ?_
                obtain rfl := Option.some.inj h
                exact hJ2 _ _ rfl <| ImpX.lq [0] ⟨b26, rfl⟩ rfl rfl
              · refine have h := iteF hc h; ATodo.exit rfl <| have h := outL h hA2; tSR <| t_call0 rfl strings_Builder_String_c (CoL.refl _) (.cons .p0 .nil) rfl rfl <| rA rfl rfl <| rN <| ATodo.ret <| ?_
                obtain rfl := Option.some.inj h
                exact ImpX.here ⟨_, .cons (.tmp _ _ rfl) .nil, rfl⟩

set_option maxHeartbeats 4000000 in
theorem Q_FixLines_c {p0x0 : List Fix} {r : Str} (h : Q_FixLines p0x0 = some r) : Pu Tryz.prog 12 [.list 5 (p0x0.map Fix.av)] (.str r) := by
  unfold Q_FixLines at h
  refine ACall.bodyN Tryz.func12 rfl Tryz.ntmps12 Tryz.results12 rfl rfl ?_
  refine tSR <| rA rfl rfl <| rN <| tSR <| rA rfl rfl <| rN <| tS <| tSR <| rM rfl rfl <| ARun.qv (t_len rfl) rfl <| rM rfl rfl <| rN <| ATodo.block <| ATodo.loopI (fun x : Str × Int => Q_FixLines_b1 p0x0 x.1 x.2) (fun x σ' => σ' = ⟨45, [(3, .str x.1), (9, .list 5 (p0x0.map Fix.av)), (10, I (p0x0.length : Int)), (11, I x.2)], []⟩) h ?_ ?_
  · exact ImpX.lq [] rfl rfl rfl
  · intro x z1 σ' J1 hmk h hJ1 hA1
    obtain ⟨q3, n4⟩ := x
    obtain rfl := hmk
    replace h : Q_FixLines_b1 p0x0 q3 n4 = some z1 := h
    unfold Q_FixLines_b1 at h
    refine tSR <| ARun.qv (q_lss rfl rfl) rfl <| rN <| tS <| ATodo.cond_d rfl (fun hc => ?_) (fun hc => ?_)
    · refine have h := iteT hc h; tK <| tS <| ATodo.block <| tSR <| bndE h fun v5 e1 h => ARun.qv (t_index rfl rfl rfl e1 rfl rfl) rfl <| ARun.qv (q_load_rptr_agg rfl rfl rfl) rfl <| n_alloc rfl rfl rfl rfl fun b6 => n_store_ptr rfl rfl rfl rfl .p0 rfl rfl <| rN <| tSR <| rF rfl rfl rfl <| rL rfl rfl .p0 rfl rfl <| n_buildSlice rfl rfl rfl rfl rfl rfl fun b7 => rA rfl rfl <| rN <| tS <| tSR <| rF rfl rfl rfl <| rL rfl rfl .p1 rfl rfl <| rF rfl rfl rfl <| rL rfl rfl .p1 rfl rfl <| rF rfl rfl rfl <| rL rfl rfl .p1 rfl rfl <| rF rfl rfl rfl <| rL rfl rfl .p1 rfl rfl <| n_buildSliceL (xs := ([v5.At, v5.X, v5.Y, v5.Error] : List Int).map I) rfl rfl rfl rfl rfl rfl <| ARun.qv (t_len rfl) rfl <| rM rfl rfl <| rN <| ATodo.block <| ATodo.loopI (fun x : (List Str) × Int => Q_FixLines_b2 q3 n4 v5 x.1 x.2) (fun x σ' => ∃ (b11 : Bk), σ' = ⟨45, [(3, .str q3), (6, .sl 1 b11 0 x.1.length), (9, .list 5 (p0x0.map Fix.av)), (10, I (p0x0.length : Int)), (11, I n4), (26, .list 1 ([v5.At, v5.X, v5.Y, v5.Error].map I)), (27, I ([v5.At, v5.X, v5.Y, v5.Error].length : Int)), (28, I x.2)], [(b11, .arr 1 (x.1.map AV.str))]⟩) h ?_ ?_
      · exact ImpX.lq [0] ⟨b7, rfl⟩ rfl rfl
      · intro x z2 σ' J2 hmk h hJ2 hA2
        obtain ⟨l12, n13⟩ := x
        obtain ⟨b11, rfl⟩ := hmk
        replace h : Q_FixLines_b2 q3 n4 v5 l12 n13 = some z2 := h
        unfold Q_FixLines_b2 at h
        refine tSR <| ARun.qv (q_lss rfl rfl) rfl <| rN <| tS <| ATodo.cond_d rfl (fun hc => ?_) (fun hc => ?_)
        · refine have h := iteT hc h; tK <| tS <| ATodo.block <| tSR <| bndE h fun v14 e2 h => ARun.qv (t_index rfl rfl rfl e2 rfl rfl) rfl <| ARun.qv (q_load_rptr rfl rfl rfl) rfl <| rA rfl rfl <| rN <| tR <| rM rfl rfl <| rM rfl rfl <| bndE h fun v15 e3 h => r_callp rfl (strconv_Itoa_c e3) (CoL.refl _) rfl <| n_buildSliceL (xs := ([v15] : List Str).map AV.str) rfl rfl rfl rfl rfl rfl <| bndE h fun l16 e4 h => t_append (g := AV.str) rfl rfl rfl rfl rfl rfl rfl rfl (.list _) e4 (fun _ => .p0) rfl fun b17 => rA rfl rfl <| rN <| ATodo.blk <| tR <| ARun.qv (q_addw rfl rfl) rfl <| rM rfl rfl <| rN <| ATodo.stop <| ?_
          obtain rfl := Option.some.inj h
          exact hJ2 _ _ rfl <| ImpX.lq [0] ⟨b17, rfl⟩ rfl rfl
        · refine have h := iteF hc h; ATodo.exit rfl <| have h := outL h hA2; ?_
          unfold Q_FixLines_k1 at h
          refine tR <| rM rfl rfl <| rM rfl rfl <| bndE h fun v18 e5 h => r_callpB rfl (strings_Join_c e5) (.cons (CoB.arrT .p0) (.cons (.co (.refl _)) .nil)) rfl rfl <| bndE h fun q19 e6 h => ARun.qv (q_sadd e6 rfl rfl) rfl <| bndE h fun q20 e7 h => ARun.qv (q_sadd e7 rfl rfl) rfl <| rA rfl rfl <| rN <| ATodo.blk <| tR <| ARun.qv (q_addw rfl rfl) rfl <| rM rfl rfl <| rN <| ATodo.stop <| ?_
          obtain rfl := Option.some.inj h
          exact hJ1 _ _ rfl <| ImpX.lq [] rfl rfl rfl
    · refine have h := iteF hc h; ATodo.exit rfl <| have h := outL h hA1; tSR <| rM rfl rfl <| rA rfl rfl <| rN <| ATodo.ret <| ?_
      obtain rfl := Option.some.inj h
      exact ImpX.here ⟨_, .cons (.tmp _ _ rfl) .nil, rfl⟩

set_option maxHeartbeats 4000000 in
theorem Stream_Changed_c [GI : GTab] {b_0 : Bk} {p0x0 : Fleetmake_Stream} {p1x0 : Str} {p2x0 : Str} {r : Str × Fleetmake_Stream} (h : Stream_Changed p0x0 p1x0 p2x0 = some r) : ACall Tryz.prog 53 [.ptr b_0 0, .str p1x0, .str p2x0] [(b_0, .cells [.list 1 (p0x0.L.map I), I p0x0.at_])] (T0 ([(b_0, .cells [.list 1 (r.2.L.map I), I r.2.at_])]) (.str r.1)) := by
  unfold Stream_Changed at h
  refine ACall.lessH ?_
  refine ACall.bodyN Tryz.func53 rfl Tryz.ntmps53 Tryz.results53 rfl rfl ?_
  refine tSR <| rA rfl rfl <| rN <| tS <| tS <| ATodo.cut (fun σ' => ∃ (c1 : Bool), Stream_Changed_j1 p0x0 p1x0 p2x0 c1 = some r ∧ σ' = ⟨63, [(0, .ptr b_0 0), (1, .str p1x0), (2, .str p2x0), (14, .bool c1)], [(b_0, .cells [.list 1 (p0x0.L.map I), I p0x0.at_])]⟩) ?_ ?_
  · refine tR <| rM rfl rfl <| ARun.qv (q_seq rfl rfl) rfl <| rM rfl rfl <| ARun.guard_df rfl rfl rfl (fun hc => ?_) (fun hc => ?_)
    · rw [orFd hc] at h
      exact rM rfl rfl <| rY rfl rfl rfl <| ARun.qv (q_seq rfl rfl) rfl <| rE rfl rfl rfl <| rN <| ATodo.stop <| ImpX.lq [0] ⟨decide (p2x0 = ([] : Str)), h, rfl⟩ rfl rfl
    · rw [orTd hc] at h
      exact rG rfl rfl rfl rfl <| rT rfl rfl rfl <| rN <| ATodo.stop <| ImpX.lq [0] ⟨true, h, rfl⟩ rfl rfl
  · rintro σ' ⟨c1, h, rfl⟩
    unfold Stream_Changed_j1 at h
    refine ATodo.cond rfl (fun hc => ?_) (fun hc => ?_)
    · refine have h := iteT hc h; tSR <| rM rfl rfl <| rA rfl rfl <| rN <| ATodo.ret <| ?_
      obtain rfl := Option.some.inj h
      exact ImpX.here ⟨_, .cons (.tmp _ _ rfl) .nil, _, .cons .p0 .nil, ⟨rfl, rfl⟩⟩
    · refine have h := iteFb hc h; tK <| tSR <| rM rfl rfl <| rM rfl rfl <| ARun.qv (q_len_str rfl) rfl <| bndE h fun v2 e1 h => t_call0 rfl (Stream_Next_c e1) (CoL.refl _) (.cons .p0 .nil) rfl rfl <| rA rfl rfl <| rN <| tSR <| rM rfl rfl <| rM rfl rfl <| rM rfl rfl <| ARun.qv (q_len_str rfl) rfl <| bndE h fun v3 e2 h => t_call0 rfl (Stream_Next_c e2) (CoL.refl _) (.cons .p0 .nil) rfl rfl <| bndE h fun c4 e3 h => ARun.qv (t_index_str rfl rfl e3) rfl <| rA rfl rfl <| rN <| tS <| tSR <| rM rfl rfl <| bndE h fun v5 e4 h => t_call0 rfl (Stream_Next_c e4) (CoL.refl _) (.cons .p0 .nil) rfl rfl <| rN <| ATodo.block <| tSR <| ARun.qv (q_eql rfl rfl) rfl <| rA rfl rfl <| rN <| ATodo.cond_d rfl (fun hc => ?_) (fun hc => ?_)
      · refine have h := iteT hc h; tS <| ATodo.regionM (id := 7) (A := [0, 0, 3, 0, 8, 24, 63, 0, 0, 256, 896, 2047, 4095]) 13 mixed rfl (by kernel_rfl) (by kernel_rfl) <| AM.qv (q_move rfl) rfl <| AM.qv (q_move rfl) rfl <| bndE h fun l6 e5 h => AM.qv (t_slice_str rfl .none (.some _ _ _ rfl) rfl rfl e5) rfl <| AM.qv (q_move rfl) rfl <| AM.qv (q_conv_int rfl) rfl <| AM.qv (q_conv_is rfl) rfl <| bndE h fun q7 e6 h => AM.qv (q_sadd e6 rfl rfl) rfl <| AM.qv (q_move rfl) rfl <| AM.qv (q_move rfl) rfl <| AM.qv (q_addw rfl rfl) rfl <| bndE h fun l8 e7 h => AM.qv (t_slice_str rfl (.some _ _ _ rfl) .none rfl rfl e7) rfl <| bndE h fun q9 e8 h => AM.qv (q_sadd e8 rfl rfl) rfl <| AM.qv (q_assign rfl) rfl <| AM.nil <| rN <| ATodo.ret <| ?_
        obtain rfl := Option.some.inj h
        exact ImpX.here ⟨_, .cons (.tmp _ _ rfl) .nil, _, .cons .p0 .nil, ⟨rfl, rfl⟩⟩
      · refine have h := iteF hc h; tSR <| ARun.qv (q_eql rfl rfl) rfl <| rA rfl rfl <| rN <| ATodo.cond_d rfl (fun hc => ?_) (fun hc => ?_)
        · refine have h := iteT hc h; tS <| ATodo.regionM (id := 9) (A := [0, 0, 3, 0, 8, 24, 63, 0, 0, 384, 1023, 2047]) 12 mixed rfl (by kernel_rfl) (by kernel_rfl) <| AM.qv (q_move rfl) rfl <| AM.qv (q_move rfl) rfl <| bndE h fun l10 e9 h => AM.qv (t_slice_str rfl .none (.some _ _ _ rfl) rfl rfl e9) rfl <| AM.qv (q_move rfl) rfl <| AM.qv (q_conv_int rfl) rfl <| AM.qv (q_conv_is rfl) rfl <| bndE h fun q11 e10 h => AM.qv (q_sadd e10 rfl rfl) rfl <| AM.qv (q_move rfl) rfl <| AM.qv (q_move rfl) rfl <| bndE h fun l12 e11 h => AM.qv (t_slice_str rfl (.some _ _ _ rfl) .none rfl rfl e11) rfl <| bndE h fun q13 e12 h => AM.qv (q_sadd e12 rfl rfl) rfl <| AM.qv (q_assign rfl) rfl <| AM.nil <| rN <| ATodo.ret <| ?_
          obtain rfl := Option.some.inj h
          exact ImpX.here ⟨_, .cons (.tmp _ _ rfl) .nil, _, .cons .p0 .nil, ⟨rfl, rfl⟩⟩
        · refine have h := iteF hc h; tK <| ATodo.blk <| tS <| ATodo.regionM (id := 10) (A := [0, 0, 3, 0, 0, 16, 56, 127, 255]) 9 mixed rfl (by kernel_rfl) (by kernel_rfl) <| AM.qv (q_move rfl) rfl <| AM.qv (q_move rfl) rfl <| bndE h fun l14 e13 h => AM.qv (t_slice_str rfl .none (.some _ _ _ rfl) rfl rfl e13) rfl <| AM.qv (q_move rfl) rfl <| AM.qv (q_move rfl) rfl <| AM.qv (q_addw rfl rfl) rfl <| bndE h fun l15 e14 h => AM.qv (t_slice_str rfl (.some _ _ _ rfl) .none rfl rfl e14) rfl <| bndE h fun q16 e15 h => AM.qv (q_sadd e15 rfl rfl) rfl <| AM.qv (q_assign rfl) rfl <| AM.nil <| rN <| ATodo.ret <| ?_
          obtain rfl := Option.some.inj h
          exact ImpX.here ⟨_, .cons (.tmp _ _ rfl) .nil, _, .cons .p0 .nil, ⟨rfl, rfl⟩⟩

set_option maxHeartbeats 4000000 in
theorem Stream_FixText_c {b_0 : Bk} {p0x0 : Fleetmake_Stream} {r : Str × Fleetmake_Stream} (h : Stream_FixText p0x0 = some r) : ACall Tryz.prog 9 [.ptr b_0 0] [(b_0, .cells [.list 1 (p0x0.L.map I), I p0x0.at_])] (T0 ([(b_0, .cells [.list 1 (r.2.L.map I), I r.2.at_])]) (.str r.1)) := by
  unfold Stream_FixText at h
  refine ACall.lessH ?_
  refine ACall.bodyN Tryz.func9 rfl Tryz.ntmps9 Tryz.results9 rfl rfl ?_
  refine tSR <| rA rfl rfl <| rN <| tSR <| rA rfl rfl <| rN <| tS <| tSR <| rM rfl rfl <| rM rfl rfl <| bndE h fun v1 e1 h => t_call0 rfl (Stream_Range_c e1) (CoL.refl _) (.cons .p0 .nil) rfl rfl <| bndE h fun v2 e2 h => t_call1 rfl (Stream_Fixes_c e2) (CoL.refl _) (.cons .p0 .nil) (fun _ => rfl) rfl fun b3 => rA rfl rfl <| rN <| tSR <| rM rfl rfl <| bndE h fun v4 e3 h => r_callpB rfl (Q_FixesFault_c e3) (.cons (CoB.arrT .p1) .nil) rfl rfl <| ARun.qv (q_eql rfl rfl) rfl <| rN <| ATodo.cut (fun σ' => ∃ (q5 : Str), Stream_FixText_j1 v2 q5 = some r ∧ σ' = ⟨24, [(0, .ptr b_0 0), (3, .str q5)], [(b_0, .cells [.list 1 (v2.2.L.map I), I v2.2.at_])]⟩) ?_ ?_
  · refine ATodo.cond_d rfl (fun hc => ?_) (fun hc => ?_)
    · exact have h := iteT hc h; tR <| rM rfl rfl <| bndE h fun v6 e4 h => r_callpB rfl (Q_FixLines_c e4) (.cons (CoB.arrT .p1) .nil) rfl rfl <| rA rfl rfl <| rN <| ATodo.stop <| ImpX.lq [0] ⟨v6, h, rfl⟩ rfl rfl
    · exact have h := iteF hc h; tK <| ATodo.stop <| ImpX.lq [0] ⟨([] : Str), h, rfl⟩ rfl rfl
  · rintro σ' ⟨q5, h, rfl⟩
    unfold Stream_FixText_j1 at h
    refine tS <| tSR <| rM rfl rfl <| n_buildSliceL (xs := ([(0 : Int), (0 : Int), (1 : Int), (2 : Int)]).map I) rfl rfl rfl rfl rfl rfl <| bndE h fun v7 e5 h => t_call0 rfl (Stream_Pick_c e5) (CoL.refl _) (.cons .p0 .nil) rfl rfl <| rM rfl rfl <| rN <| ATodo.block <| ATodo.loopI (fun x : (List Int) × Int × Str × Int => Stream_FixText_b1 v7 x.1 x.2.1 x.2.2.1 x.2.2.2) (fun x σ' => σ' = ⟨24, [(0, .ptr b_0 0), (3, .str x.2.2.1), (16, I v7.1), (17, I x.2.2.2)], [(b_0, .cells [.list 1 (x.1.map I), I x.2.1])]⟩) h ?_ ?_
    · exact ImpX.lq [0] rfl rfl rfl
    · intro x z1 σ' J1 hmk h hJ1 hA1
      obtain ⟨l12, n13, q14, n15⟩ := x
      obtain rfl := hmk
      replace h : Stream_FixText_b1 v7 l12 n13 q14 n15 = some z1 := h
      unfold Stream_FixText_b1 at h
      refine tSR <| ARun.qv (q_lss rfl rfl) rfl <| rN <| tS <| ATodo.cond_d rfl (fun hc => ?_) (fun hc => ?_)
      · refine have h := iteT hc h; tK <| tS <| ATodo.block <| tR <| rM rfl rfl <| rM rfl rfl <| bndE h fun v16 e6 h => t_call0 rfl (Stream_Changed_c e6) (CoL.refl _) (.cons .p0 .nil) rfl rfl <| rA rfl rfl <| rN <| ATodo.blk <| tR <| ARun.qv (q_addw rfl rfl) rfl <| rM rfl rfl <| rN <| ATodo.stop <| ?_
        obtain rfl := Option.some.inj h
        exact hJ1 _ _ rfl <| ImpX.lq [0] rfl rfl rfl
      · refine have h := iteF hc h; ATodo.exit rfl <| have h := outL h hA1; tSR <| rM rfl rfl <| rA rfl rfl <| rN <| ATodo.ret <| ?_
        obtain rfl := Option.some.inj h
        exact ImpX.here ⟨_, .cons (.tmp _ _ rfl) .nil, _, .cons .p0 .nil, ⟨rfl, rfl⟩⟩

set_option maxHeartbeats 4000000 in
theorem base_Key_c [GI : GTab] {p0x0 : Str} {r : Bool} (h : base_Key p0x0 = some r) : Pu Tryz.prog 118 [.str p0x0] (.bool r) := by
  unfold base_Key at h
  refine ACall.bodyN Tryz.func118 rfl Tryz.ntmps118 Tryz.results118 rfl rfl ?_
  refine tSR <| rA rfl rfl <| rN <| tS <| tS <| ATodo.cut (fun σ' => ∃ (c1 : Bool), base_Key_j1 p0x0 c1 = some r ∧ σ' = ⟨54, [(0, .str p0x0), (21, .bool c1)], []⟩) ?_ ?_
  · refine tR <| rM rfl rfl <| ARun.qv (q_seq rfl rfl) rfl <| rM rfl rfl <| ARun.guard_df rfl rfl rfl (fun hc => ?_) (fun hc => ?_)
    · refine have h := iteF hc h; rM rfl rfl <| rY rfl rfl rfl <| ARun.qv (q_len_str rfl) rfl <| rY rfl rfl rfl <| ARun.qv (q_gtr rfl rfl) rfl <| rE rfl rfl rfl <| rM rfl rfl <| ARun.guard_df rfl rfl rfl (fun hc => ?_) (fun hc => ?_)
      · refine have h := iteF hc h; rM rfl rfl <| rY rfl rfl rfl <| bndE h fun c2 e1 h => ARun.qv (t_index_str rfl rfl e1) rfl <| rY rfl rfl rfl <| ARun.qv (q_lss rfl rfl) rfl <| rE rfl rfl rfl <| rM rfl rfl <| ARun.guard_df rfl rfl rfl (fun hc => ?_) (fun hc => ?_)
        · exact have h := iteF hc h; rM rfl rfl <| rY rfl rfl rfl <| bndE h fun c3 e2 h => ARun.qv (t_index_str rfl rfl e2) rfl <| rY rfl rfl rfl <| ARun.qv (q_gtr rfl rfl) rfl <| rE rfl rfl rfl <| rN <| ATodo.stop <| ImpX.lq [] ⟨decide ((122 : Int) < (c3.toNat : Int)), h, rfl⟩ rfl rfl
        · exact have h := iteT hc h; rG rfl rfl rfl rfl <| rG rfl rfl rfl rfl <| rT rfl rfl rfl <| rN <| ATodo.stop <| ImpX.lq [] ⟨true, h, rfl⟩ rfl rfl
      · exact have h := iteT hc h; rG rfl rfl rfl rfl <| rG rfl rfl rfl rfl <| rT rfl rfl rfl <| rM rfl rfl <| rG rfl rfl rfl rfl <| rG rfl rfl rfl rfl <| rG rfl rfl rfl rfl <| rT rfl rfl rfl <| rN <| ATodo.stop <| ImpX.lq [] ⟨true, h, rfl⟩ rfl rfl
    · exact have h := iteT hc h; rG rfl rfl rfl rfl <| rG rfl rfl rfl rfl <| rT rfl rfl rfl <| rM rfl rfl <| rG rfl rfl rfl rfl <| rG rfl rfl rfl rfl <| rG rfl rfl rfl rfl <| rT rfl rfl rfl <| rM rfl rfl <| rG rfl rfl rfl rfl <| rG rfl rfl rfl rfl <| rG rfl rfl rfl rfl <| rT rfl rfl rfl <| rN <| ATodo.stop <| ImpX.lq [] ⟨true, h, rfl⟩ rfl rfl
  · rintro σ' ⟨c1, h, rfl⟩
    unfold base_Key_j1 at h
    refine ATodo.cond rfl (fun hc => ?_) (fun hc => ?_)
    · refine have h := iteT hc h; tSR <| rA rfl rfl <| rN <| ATodo.ret <| ?_
      obtain rfl := Option.some.inj h
      exact ImpX.here ⟨_, .cons (.tmp _ _ rfl) .nil, rfl⟩
    · refine have h := iteFb hc h; tK <| tS <| tSR <| rM rfl rfl <| ARun.qv (q_len_str rfl) rfl <| rM rfl rfl <| rN <| ATodo.block <| ATodo.loopI (fun x : Int => base_Key_b1 p0x0 x) (fun x σ' => σ' = ⟨54, [(0, .str p0x0), (23, I (p0x0.length : Int)), (24, I x)], []⟩) h ?_ ?_
      · exact ImpX.lq [] rfl rfl rfl
      · intro n5 z1 σ' J1 hmk h hJ1 hA1
        obtain rfl := hmk
        replace h : base_Key_b1 p0x0 n5 = some z1 := h
        unfold base_Key_b1 at h
        refine tSR <| ARun.qv (q_lss rfl rfl) rfl <| rN <| tS <| ATodo.cond_d rfl (fun hc => ?_) (fun hc => ?_)
        · refine have h := iteT hc h; tK <| tS <| ATodo.block <| tSR <| rM rfl rfl <| rA rfl rfl <| rN <| tSR <| rM rfl rfl <| rM rfl rfl <| bndE h fun c6 e3 h => ARun.qv (t_index_str rfl rfl e3) rfl <| rA rfl rfl <| rN <| tS <| ATodo.cut (fun σ' => ∃ (c7 : Bool), base_Key_j2 n5 c7 = some z1 ∧ σ' = ⟨54, [(0, .str p0x0), (23, I (p0x0.length : Int)), (24, I n5), (52, .bool c7)], []⟩) ?_ ?_
          · refine tR <| rM rfl rfl <| ARun.qv (q_geq rfl rfl) rfl <| rM rfl rfl <| ARun.guard_dt rfl rfl rfl (fun hc => ?_) (fun hc => ?_)
            · rw [if_pos hc] at h
              refine rM rfl rfl <| rY rfl rfl rfl <| ARun.qv (q_leq rfl rfl) rfl <| rT rfl rfl rfl <| rM rfl rfl <| ARun.guard_df rfl rfl rfl (fun hc => ?_) (fun hc => ?_)
              · rw [if_neg hc] at h
                refine rM rfl rfl <| rY rfl rfl rfl <| ARun.qv (q_geq rfl rfl) rfl <| rY rfl rfl rfl <| rM rfl rfl <| ARun.guard_dt rfl rfl rfl (fun hc => ?_) (fun hc => ?_)
                · rw [if_pos hc] at h
                  refine rM rfl rfl <| rY rfl rfl rfl <| ARun.qv (q_leq rfl rfl) rfl <| rY rfl rfl rfl <| rT rfl rfl rfl <| rE rfl rfl rfl <| rM rfl rfl <| ARun.guard_df rfl rfl rfl (fun hc => ?_) (fun hc => ?_)
                  · rw [if_neg hc] at h
                    refine rM rfl rfl <| rY rfl rfl rfl <| ARun.qv (q_eql rfl rfl) rfl <| rE rfl rfl rfl <| rM rfl rfl <| ARun.guard_df rfl rfl rfl (fun hc => ?_) (fun hc => ?_)
                    · rw [if_neg hc] at h
                      exact rM rfl rfl <| rY rfl rfl rfl <| ARun.qv (q_eql rfl rfl) rfl <| rE rfl rfl rfl <| ARun.qv (q_not_d rfl) rfl <| rN <| ATodo.stop <| ImpX.lq [] ⟨decide (¬ ((c6.toNat : Int) = (95 : Int))), h, rfl⟩ rfl rfl
                    · rw [if_pos hc] at h
                      exact rG rfl rfl rfl rfl <| rT rfl rfl rfl <| ARun.qv (q_not rfl) rfl <| rN <| ATodo.stop <| ImpX.lq [] ⟨!true, h, rfl⟩ rfl rfl
                  · rw [if_pos hc] at h
                    exact rG rfl rfl rfl rfl <| rT rfl rfl rfl <| rM rfl rfl <| rG rfl rfl rfl rfl <| rG rfl rfl rfl rfl <| rT rfl rfl rfl <| ARun.qv (q_not rfl) rfl <| rN <| ATodo.stop <| ImpX.lq [] ⟨!true, h, rfl⟩ rfl rfl
                · rw [if_neg hc] at h
                  refine rG rfl rfl rfl rfl <| rY rfl rfl rfl <| rE rfl rfl rfl <| rE rfl rfl rfl <| rM rfl rfl <| rY rfl rfl rfl <| rM rfl rfl <| rY rfl rfl rfl <| ARun.qv (q_eql rfl rfl) rfl <| rE rfl rfl rfl <| rM rfl rfl <| ARun.guard_df rfl rfl rfl (fun hc => ?_) (fun hc => ?_)
                  · rw [if_neg hc] at h
                    exact rM rfl rfl <| rY rfl rfl rfl <| ARun.qv (q_eql rfl rfl) rfl <| rE rfl rfl rfl <| ARun.qv (q_not_d rfl) rfl <| rN <| ATodo.stop <| ImpX.lq [] ⟨decide (¬ ((c6.toNat : Int) = (95 : Int))), h, rfl⟩ rfl rfl
                  · rw [if_pos hc] at h
                    exact rG rfl rfl rfl rfl <| rT rfl rfl rfl <| ARun.qv (q_not rfl) rfl <| rN <| ATodo.stop <| ImpX.lq [] ⟨!true, h, rfl⟩ rfl rfl
              · rw [if_pos hc] at h
                exact rG rfl rfl rfl rfl <| rG rfl rfl rfl rfl <| ARun.guard_und rfl rfl rfl <| ARun.guard_und rfl rfl rfl <| rG rfl rfl rfl rfl <| rT rfl rfl rfl <| rM rfl rfl <| rG rfl rfl rfl rfl <| rG rfl rfl rfl rfl <| rT rfl rfl rfl <| rM rfl rfl <| rG rfl rfl rfl rfl <| rG rfl rfl rfl rfl <| rT rfl rfl rfl <| ARun.qv (q_not rfl) rfl <| rN <| ATodo.stop <| ImpX.lq [] ⟨!true, h, rfl⟩ rfl rfl
            · rw [if_neg hc] at h
              refine rG rfl rfl rfl rfl <| rE rfl rfl rfl <| rM rfl rfl <| rY rfl rfl rfl <| rM rfl rfl <| rY rfl rfl rfl <| ARun.qv (q_geq rfl rfl) rfl <| rY rfl rfl rfl <| rM rfl rfl <| ARun.guard_dt rfl rfl rfl (fun hc => ?_) (fun hc => ?_)
              · rw [if_pos hc] at h
                refine rM rfl rfl <| rY rfl rfl rfl <| ARun.qv (q_leq rfl rfl) rfl <| rY rfl rfl rfl <| rT rfl rfl rfl <| rE rfl rfl rfl <| rM rfl rfl <| ARun.guard_df rfl rfl rfl (fun hc => ?_) (fun hc => ?_)
                · rw [if_neg hc] at h
                  refine rM rfl rfl <| rY rfl rfl rfl <| ARun.qv (q_eql rfl rfl) rfl <| rE rfl rfl rfl <| rM rfl rfl <| ARun.guard_df rfl rfl rfl (fun hc => ?_) (fun hc => ?_)
                  · rw [if_neg hc] at h
                    exact rM rfl rfl <| rY rfl rfl rfl <| ARun.qv (q_eql rfl rfl) rfl <| rE rfl rfl rfl <| ARun.qv (q_not_d rfl) rfl <| rN <| ATodo.stop <| ImpX.lq [] ⟨decide (¬ ((c6.toNat : Int) = (95 : Int))), h, rfl⟩ rfl rfl
                  · rw [if_pos hc] at h
                    exact rG rfl rfl rfl rfl <| rT rfl rfl rfl <| ARun.qv (q_not rfl) rfl <| rN <| ATodo.stop <| ImpX.lq [] ⟨!true, h, rfl⟩ rfl rfl
                · rw [if_pos hc] at h
                  exact rG rfl rfl rfl rfl <| rT rfl rfl rfl <| rM rfl rfl <| rG rfl rfl rfl rfl <| rG rfl rfl rfl rfl <| rT rfl rfl rfl <| ARun.qv (q_not rfl) rfl <| rN <| ATodo.stop <| ImpX.lq [] ⟨!true, h, rfl⟩ rfl rfl
              · rw [if_neg hc] at h
                refine rG rfl rfl rfl rfl <| rY rfl rfl rfl <| rE rfl rfl rfl <| rE rfl rfl rfl <| rM rfl rfl <| rY rfl rfl rfl <| rM rfl rfl <| rY rfl rfl rfl <| ARun.qv (q_eql rfl rfl) rfl <| rE rfl rfl rfl <| rM rfl rfl <| ARun.guard_df rfl rfl rfl (fun hc => ?_) (fun hc => ?_)
                · rw [if_neg hc] at h
                  exact rM rfl rfl <| rY rfl rfl rfl <| ARun.qv (q_eql rfl rfl) rfl <| rE rfl rfl rfl <| ARun.qv (q_not_d rfl) rfl <| rN <| ATodo.stop <| ImpX.lq [] ⟨decide (¬ ((c6.toNat : Int) = (95 : Int))), h, rfl⟩ rfl rfl
                · rw [if_pos hc] at h
                  exact rG rfl rfl rfl rfl <| rT rfl rfl rfl <| ARun.qv (q_not rfl) rfl <| rN <| ATodo.stop <| ImpX.lq [] ⟨!true, h, rfl⟩ rfl rfl
          · rintro σ' ⟨c7, h, rfl⟩
            unfold base_Key_j2 at h
            refine ATodo.cond rfl (fun hc => ?_) (fun hc => ?_)
            · refine have h := iteT hc h; tSR <| rA rfl rfl <| rN <| ATodo.ret <| have h := outL h hA1; ?_
              obtain rfl := Option.some.inj h
              exact ImpX.here ⟨_, .cons (.tmp _ _ rfl) .nil, rfl⟩
            · refine have h := iteFb hc h; tK <| ATodo.blk <| tR <| ARun.qv (q_addw rfl rfl) rfl <| rM rfl rfl <| rN <| ATodo.stop <| ?_
              obtain rfl := Option.some.inj h
              exact hJ1 _ _ rfl <| ImpX.lq [] rfl rfl rfl
        · refine have h := iteF hc h; ATodo.exit rfl <| have h := outL h hA1; tSR <| rA rfl rfl <| rN <| ATodo.ret <| ?_
          obtain rfl := Option.some.inj h
          exact ImpX.here ⟨_, .cons (.tmp _ _ rfl) .nil, rfl⟩

set_option maxHeartbeats 4000000 in
theorem base_Out_c [GI : GTab] {p0x0 : Int} {p1x0 : Int} {p2x0 : Int} {r : Bool} (h : base_Out p0x0 p1x0 p2x0 = r) : Pu Tryz.prog 122 [I p0x0, I p1x0, I p2x0] (.bool r) := by
  unfold base_Out at h
  refine ACall.bodyN Tryz.func122 rfl Tryz.ntmps122 Tryz.results122 rfl rfl ?_
  refine tSR <| rA rfl rfl <| rN <| tS <| ATodo.cut (fun σ' => ∃ (c1 : Bool), base_Out_j1 c1 = r ∧ σ' = ⟨15, [(6, .bool c1)], []⟩) ?_ ?_
  · refine tR <| rM rfl rfl <| rM rfl rfl <| ARun.qv (q_lss rfl rfl) rfl <| rM rfl rfl <| ARun.guard_df rfl rfl rfl (fun hc => ?_) (fun hc => ?_)
    · rw [orFd hc] at h
      exact rM rfl rfl <| rY rfl rfl rfl <| rM rfl rfl <| rY rfl rfl rfl <| ARun.qv (q_gtr rfl rfl) rfl <| rE rfl rfl rfl <| rA rfl rfl <| rN <| ATodo.stop <| ImpX.lq [] ⟨decide (p2x0 < p0x0), h, rfl⟩ rfl rfl
    · rw [orTd hc] at h
      exact rG rfl rfl rfl rfl <| rG rfl rfl rfl rfl <| rT rfl rfl rfl <| rA rfl rfl <| rN <| ATodo.stop <| ImpX.lq [] ⟨true, h, rfl⟩ rfl rfl
  · rintro σ' ⟨c1, h, rfl⟩
    unfold base_Out_j1 at h
    refine ATodo.ret <| ?_
    obtain rfl := h
    exact ImpX.here ⟨_, .cons (.tmp _ _ rfl) .nil, rfl⟩

set_option maxHeartbeats 4000000 in
theorem base_Moment_c [GI : GTab] {p0x0 : Int} {r : Bool} (h : base_Moment p0x0 = r) : Pu Tryz.prog 119 [I p0x0] (.bool r) := by
  unfold base_Moment at h
  refine ACall.bodyN Tryz.func119 rfl Tryz.ntmps119 Tryz.results119 rfl rfl ?_
  refine tSR <| rA rfl rfl <| rN <| tSR <| rM rfl rfl <| r_callp rfl (base_Out_c rfl) (CoL.refl _) rfl <| ARun.qv (q_not rfl) rfl <| rA rfl rfl <| rN <| ATodo.ret <| ?_
  obtain rfl := h
  exact ImpX.here ⟨_, .cons (.tmp _ _ rfl) .nil, rfl⟩

set_option maxHeartbeats 4000000 in
theorem place_spot_c [GI : GTab] {p0x0 : Fix} {r : Spot} (h : place_spot p0x0 = r) : Pu Tryz.prog 121 [.agg [.str p0x0.Device, I p0x0.At, I p0x0.X, I p0x0.Y, I p0x0.Error]] (.agg [I r.X, I r.Y]) := by
  unfold place_spot at h
  refine ACall.bodyN Tryz.func121 rfl Tryz.ntmps121 Tryz.results121 rfl rfl ?_
  refine tSR <| n_box rfl rfl rfl rfl fun b1 => n_alloc rfl rfl rfl rfl fun b2 => rN <| tSR <| rF rfl rfl rfl <| rL rfl rfl .p1 rfl rfl <| rF rfl rfl rfl <| rL rfl rfl .p1 rfl rfl <| ARun.qv (n_build rfl rfl rfl rfl rfl) rfl <| n_store_ptr rfl rfl rfl rfl .p0 rfl rfl <| rN <| ATodo.ret <| ?_
  obtain rfl := h
  exact ImpX.here ⟨_, .cons (.all _ _ _ _ _ _ rfl .p0 TUnder.h TInfo.h rfl rfl) .nil, rfl⟩

set_option maxHeartbeats 4000000 in
theorem place_isSpot_c [GI : GTab] {p0x0 : Spot} {r : Bool} (h : place_isSpot p0x0 = r) : Pu Tryz.prog 120 [.agg [I p0x0.X, I p0x0.Y]] (.bool r) := by
  unfold place_isSpot at h
  refine ACall.bodyN Tryz.func120 rfl Tryz.ntmps120 Tryz.results120 rfl rfl ?_
  refine tSR <| n_box rfl rfl rfl rfl fun b1 => rA rfl rfl <| rN <| tS <| ATodo.cut (fun σ' => ∃ (c2 : Bool), place_isSpot_j1 c2 = r ∧ σ' = ⟨13, [(2, .bool c2)], []⟩) ?_ ?_
  · refine tR <| rF rfl rfl rfl <| rL rfl rfl .p0 rfl rfl <| r_callp rfl (base_Out_c rfl) (CoL.refl _) rfl <| ARun.qv (q_not rfl) rfl <| rM rfl rfl <| ARun.guard rfl rfl rfl (fun hc => ?_) (fun hc => ?_)
    · rw [andTb hc] at h
      exact rF rfl rfl rfl <| rY rfl rfl rfl <| rL rfl rfl .p0 rfl rfl <| rY rfl rfl rfl <| r_callp rfl (base_Out_c rfl) (CoL.refl _) rfl <| rY rfl rfl rfl <| ARun.qv (q_not rfl) rfl <| rT rfl rfl rfl <| rA rfl rfl <| rN <| ATodo.stop <| ImpX.lq [] ⟨!(base_Out p0x0.Y (-10000 : Int) (10000 : Int)), h, rfl⟩ rfl rfl
    · rw [andFb hc] at h
      exact rG rfl rfl rfl rfl <| rG rfl rfl rfl rfl <| rG rfl rfl rfl rfl <| rE rfl rfl rfl <| rA rfl rfl <| rN <| ATodo.stop <| ImpX.lq [] ⟨false, h, rfl⟩ rfl rfl
  · rintro σ' ⟨c2, h, rfl⟩
    unfold place_isSpot_j1 at h
    refine ATodo.ret <| ?_
    obtain rfl := h
    exact ImpX.here ⟨_, .cons (.tmp _ _ rfl) .nil, rfl⟩

set_option maxHeartbeats 4000000 in
theorem cmp_isNaN_int_c [GI : GTab] {p0x0 : Int} {r : Bool} (h : cmp_isNaN_int p0x0 = r) : Pu Tryz.prog 211 [I p0x0] (.bool r) := by
  unfold cmp_isNaN_int at h
  refine ACall.bodyN Tryz.func211 rfl Tryz.ntmps211 Tryz.results211 rfl rfl ?_
  refine tSR <| rA rfl rfl <| rN <| tSR <| rM rfl rfl <| rM rfl rfl <| ARun.qv (q_neq rfl rfl) rfl <| rA rfl rfl <| rN <| ATodo.ret <| ?_
  obtain rfl := h
  exact ImpX.here ⟨_, .cons (.tmp _ _ rfl) .nil, rfl⟩

set_option maxHeartbeats 4000000 in
theorem cmp_Compare_int_c [GI : GTab] {p0x0 : Int} {p1x0 : Int} {r : Int} (h : cmp_Compare_int p0x0 p1x0 = r) : Pu Tryz.prog 169 [I p0x0, I p1x0] (I r) := by
  unfold cmp_Compare_int at h
  refine ACall.bodyN Tryz.func169 rfl Tryz.ntmps169 Tryz.results169 rfl rfl ?_
  refine tSR <| rA rfl rfl <| rN <| tSR <| rM rfl rfl <| r_callp rfl (cmp_isNaN_int_c rfl) (CoL.refl _) rfl <| rA rfl rfl <| rN <| tSR <| rM rfl rfl <| r_callp rfl (cmp_isNaN_int_c rfl) (CoL.refl _) rfl <| rA rfl rfl <| rN <| tS <| tSR <| rM rfl rfl <| rN <| ATodo.cond rfl (fun hc => ?_) (fun hc => ?_)
  · refine have h := iteT hc h; tS <| tSR <| rM rfl rfl <| rN <| ATodo.cond rfl (fun hc => ?_) (fun hc => ?_)
    · refine have h := iteT hc h; tSR <| rA rfl rfl <| rN <| ATodo.ret <| ?_
      obtain rfl := h
      exact ImpX.here ⟨_, .cons (.tmp _ _ rfl) .nil, rfl⟩
    · refine have h := iteFb hc h; tK <| tSR <| rA rfl rfl <| rN <| ATodo.ret <| ?_
      obtain rfl := h
      exact ImpX.here ⟨_, .cons (.tmp _ _ rfl) .nil, rfl⟩
  · refine have h := iteFb hc h; tK <| tS <| tSR <| rM rfl rfl <| rN <| ATodo.cond rfl (fun hc => ?_) (fun hc => ?_)
    · refine have h := iteT hc h; tSR <| rA rfl rfl <| rN <| ATodo.ret <| ?_
      obtain rfl := h
      exact ImpX.here ⟨_, .cons (.tmp _ _ rfl) .nil, rfl⟩
    · refine have h := iteFb hc h; tK <| tS <| tSR <| rM rfl rfl <| rM rfl rfl <| ARun.qv (q_lss rfl rfl) rfl <| rN <| ATodo.cond_d rfl (fun hc => ?_) (fun hc => ?_)
      · refine have h := iteT hc h; tSR <| rA rfl rfl <| rN <| ATodo.ret <| ?_
        obtain rfl := h
        exact ImpX.here ⟨_, .cons (.tmp _ _ rfl) .nil, rfl⟩
      · refine have h := iteF hc h; tK <| tS <| tSR <| rM rfl rfl <| rM rfl rfl <| ARun.qv (q_gtr rfl rfl) rfl <| rN <| ATodo.cond_d rfl (fun hc => ?_) (fun hc => ?_)
        · refine have h := iteT hc h; tSR <| rA rfl rfl <| rN <| ATodo.ret <| ?_
          obtain rfl := h
          exact ImpX.here ⟨_, .cons (.tmp _ _ rfl) .nil, rfl⟩
        · refine have h := iteF hc h; tK <| tSR <| rA rfl rfl <| rN <| ATodo.ret <| ?_
          obtain rfl := h
          exact ImpX.here ⟨_, .cons (.tmp _ _ rfl) .nil, rfl⟩

set_option maxHeartbeats 4000000 in
theorem cmp_Or_int_c [GI : GTab] {p0x0 : List Int} {r : Int} (h : cmp_Or_int p0x0 = some r) : Pu Tryz.prog 168 [.list 1 (p0x0.map I)] (I r) := by
  unfold cmp_Or_int at h
  refine ACall.bodyN Tryz.func168 rfl Tryz.ntmps168 Tryz.results168 rfl rfl ?_
  refine tSR <| rA rfl rfl <| rN <| tSR <| rA rfl rfl <| rN <| tS <| tSR <| rM rfl rfl <| ARun.qv (t_len rfl) rfl <| rM rfl rfl <| rN <| ATodo.block <| ATodo.loopI (fun x : Int => cmp_Or_int_b1 p0x0 x) (fun x σ' => σ' = ⟨18, [(3, I (0 : Int)), (6, .list 1 (p0x0.map I)), (7, I (p0x0.length : Int)), (8, I x)], []⟩) h ?_ ?_
  · exact ImpX.lq [] rfl rfl rfl
  · intro n2 z1 σ' J1 hmk h hJ1 hA1
    obtain rfl := hmk
    replace h : cmp_Or_int_b1 p0x0 n2 = some z1 := h
    unfold cmp_Or_int_b1 at h
    refine tSR <| ARun.qv (q_lss rfl rfl) rfl <| rN <| tS <| ATodo.cond_d rfl (fun hc => ?_) (fun hc => ?_)
    · refine have h := iteT hc h; tK <| tS <| ATodo.block <| tSR <| bndE h fun v3 e1 h => ARun.qv (t_index rfl rfl rfl e1 rfl rfl) rfl <| ARun.qv (q_load_rptr rfl rfl rfl) rfl <| rA rfl rfl <| rN <| tSR <| rM rfl rfl <| rM rfl rfl <| ARun.qv (q_neq rfl rfl) rfl <| rN <| ATodo.cond_d rfl (fun hc => ?_) (fun hc => ?_)
      · refine have h := iteT hc h; tSR <| rM rfl rfl <| rA rfl rfl <| rN <| ATodo.ret <| have h := outL h hA1; ?_
        obtain rfl := Option.some.inj h
        exact ImpX.here ⟨_, .cons (.tmp _ _ rfl) .nil, rfl⟩
      · refine have h := iteF hc h; tK <| ATodo.blk <| tR <| ARun.qv (q_addw rfl rfl) rfl <| rM rfl rfl <| rN <| ATodo.stop <| ?_
        obtain rfl := Option.some.inj h
        exact hJ1 _ _ rfl <| ImpX.lq [] rfl rfl rfl
    · refine have h := iteF hc h; ATodo.exit rfl <| have h := outL h hA1; tSR <| rM rfl rfl <| rA rfl rfl <| rN <| ATodo.ret <| ?_
      obtain rfl := Option.some.inj h
      exact ImpX.here ⟨_, .cons (.tmp _ _ rfl) .nil, rfl⟩

set_option maxHeartbeats 4000000 in
theorem place_byDevice_c [GI : GTab] {p0x0 : Fix} {p1x0 : Fix} {r : Int} (h : place_byDevice p0x0 p1x0 = some r) : Pu Tryz.prog 123 [.agg [.str p0x0.Device, I p0x0.At, I p0x0.X, I p0x0.Y, I p0x0.Error], .agg [.str p1x0.Device, I p1x0.At, I p1x0.X, I p1x0.Y, I p1x0.Error]] (I r) := by
  unfold place_byDevice at h
  refine ACall.bodyN Tryz.func123 rfl Tryz.ntmps123 Tryz.results123 rfl rfl ?_
  refine tSR <| n_box rfl rfl rfl rfl fun b1 => n_box rfl rfl rfl rfl fun b2 => rA rfl rfl <| rN <| tS <| ATodo.regionM (id := 1) (A := [0, 1, 0, 4, 15, 0, 32, 0, 128, 511, 1023, 2047, 4095]) 13 mixed rfl (by kernel_rfl) (by kernel_rfl) <| AM.qv (n_field_ptr rfl rfl) rfl <| AM.qv (q_load_ptr rfl rfl .p1 rfl) rfl <| AM.qv (n_field_ptr rfl rfl) rfl <| AM.qv (q_load_ptr rfl rfl .p0 rfl) rfl <| AM.callp rfl (strings_Compare_c rfl) (CoL.refl _) rfl <| AM.qv (n_field_ptr rfl rfl) rfl <| AM.qv (q_load_ptr rfl rfl .p1 rfl) rfl <| AM.qv (n_field_ptr rfl rfl) rfl <| AM.qv (q_load_ptr rfl rfl .p0 rfl) rfl <| AM.callp rfl (cmp_Compare_int_c rfl) (CoL.refl _) rfl <| AM.buildSliceL (xs := ([(Lib.compareBytes p0x0.Device p1x0.Device), (cmp_Compare_int p0x0.At p1x0.At)] : List Int).map I) rfl rfl rfl rfl rfl rfl <| bndE h fun v3 e1 h => AM.callp rfl (cmp_Or_int_c e1) (CoL.refl _) rfl <| AM.qv (q_assign rfl) rfl <| AM.nil <| rN <| ATodo.ret <| ?_
  obtain rfl := Option.some.inj h
  exact ImpX.here ⟨_, .cons (.tmp _ _ rfl) .nil, rfl⟩

set_option maxHeartbeats 4000000 in
theorem place_CheckFixes_c [GI : GTab] {p0x0 : List Fix} {r : Int} (h : place_CheckFixes p0x0 = some r) : Pu Tryz.prog 54 [.list 5 (p0x0.map Fix.av)] (I r) := by
  unfold place_CheckFixes at h
  refine ACall.bodyN Tryz.func54 rfl Tryz.ntmps54 Tryz.results54 rfl rfl ?_
  refine tSR <| rA rfl rfl <| rN <| tS <| tSR <| rM rfl rfl <| ARun.qv (t_len rfl) rfl <| ARun.qv (q_gtr rfl rfl) rfl <| rN <| ATodo.cond_d rfl (fun hc => ?_) (fun hc => ?_)
  · refine have h := iteT hc h; tSR <| rA rfl rfl <| rN <| ATodo.ret <| ?_
    obtain rfl := Option.some.inj h
    exact ImpX.here ⟨_, .cons (.tmp _ _ rfl) .nil, rfl⟩
  · refine have h := iteF hc h; tK <| tS <| tSR <| rM rfl rfl <| ARun.qv (t_len rfl) rfl <| rM rfl rfl <| rN <| ATodo.block <| ATodo.loopI (fun x : Int => place_CheckFixes_b1 p0x0 x) (fun x σ' => σ' = ⟨50, [(0, .list 5 (p0x0.map Fix.av)), (8, .list 5 (p0x0.map Fix.av)), (9, I (p0x0.length : Int)), (10, I x)], []⟩) h ?_ ?_
    · exact ImpX.lq [] rfl rfl rfl
    · intro n2 z1 σ' J1 hmk h hJ1 hA1
      obtain rfl := hmk
      replace h : place_CheckFixes_b1 p0x0 n2 = some z1 := h
      unfold place_CheckFixes_b1 at h
      refine tSR <| ARun.qv (q_lss rfl rfl) rfl <| rN <| tS <| ATodo.cond_d rfl (fun hc => ?_) (fun hc => ?_)
      · refine have h := iteT hc h; tK <| tS <| ATodo.block <| tSR <| rM rfl rfl <| bndE h fun v3 e1 h => ARun.qv (t_index rfl rfl rfl e1 rfl rfl) rfl <| ARun.qv (q_load_rptr_agg rfl rfl rfl) rfl <| n_alloc rfl rfl rfl rfl fun b4 => rA rfl rfl <| n_store_ptr rfl rfl rfl rfl .p0 rfl rfl <| rN <| ATodo.block <| tSR <| rF rfl rfl rfl <| rL rfl rfl .p0 rfl rfl <| bndE h fun v5 e2 h => r_callp rfl (base_Key_c e2) (CoL.refl _) rfl <| ARun.qv (q_not rfl) rfl <| rA rfl rfl <| rN <| ATodo.cond rfl (fun hc => ?_) (fun hc => ?_)
        · refine have h := iteT hc h; tSR <| rA rfl rfl <| rN <| ATodo.ret <| have h := outL h hA1; ?_
          obtain rfl := Option.some.inj h
          exact ImpX.here ⟨_, .cons (.tmp _ _ rfl) .nil, rfl⟩
        · refine have h := iteFb hc h; tS <| ATodo.cut (fun σ' => ∃ (c6 : Bool), place_CheckFixes_j1 p0x0 n2 v3 c6 = some z1 ∧ σ' = ⟨50, [(0, .list 5 (p0x0.map Fix.av)), (3, I n2), (4, .ptr b4 0), (8, .list 5 (p0x0.map Fix.av)), (9, I (p0x0.length : Int)), (10, I n2), (20, .bool c6)], [(b4, .cells [.str v3.Device, I v3.At, I v3.X, I v3.Y, I v3.Error])]⟩) ?_ ?_
          · refine tR <| rF rfl rfl rfl <| rL rfl rfl .p0 rfl rfl <| r_callp rfl (base_Moment_c rfl) (CoL.refl _) rfl <| ARun.qv (q_not rfl) rfl <| rM rfl rfl <| ARun.guard rfl rfl rfl (fun hc => ?_) (fun hc => ?_)
            · rw [orFb hc] at h
              refine ARun.qv (q_load_ptr_all rfl rfl .p0 rfl) rfl <| rY rfl rfl rfl <| r_callp rfl (place_spot_c rfl) (CoL.refl _) rfl <| rY rfl rfl rfl <| r_callp rfl (place_isSpot_c rfl) (CoL.refl _) rfl <| rY rfl rfl rfl <| ARun.qv (q_not rfl) rfl <| rE rfl rfl rfl <| rM rfl rfl <| ARun.guard rfl rfl rfl (fun hc => ?_) (fun hc => ?_)
              · rw [orFb hc] at h
                exact rF rfl rfl rfl <| rY rfl rfl rfl <| rL rfl rfl .p0 rfl rfl <| rY rfl rfl rfl <| r_callp rfl (base_Out_c rfl) (CoL.refl _) rfl <| rE rfl rfl rfl <| rA rfl rfl <| rN <| ATodo.stop <| ImpX.lq [0] ⟨(base_Out v3.Error (0 : Int) (10000 : Int)), h, rfl⟩ rfl rfl
              · rw [orTb hc] at h
                exact rG rfl rfl rfl rfl <| rG rfl rfl rfl rfl <| rT rfl rfl rfl <| rA rfl rfl <| rN <| ATodo.stop <| ImpX.lq [0] ⟨true, h, rfl⟩ rfl rfl
            · rw [orTb hc] at h
              exact rG rfl rfl rfl rfl <| rG rfl rfl rfl rfl <| rG rfl rfl rfl rfl <| rT rfl rfl rfl <| rM rfl rfl <| rG rfl rfl rfl rfl <| rG rfl rfl rfl rfl <| rG rfl rfl rfl rfl <| rT rfl rfl rfl <| rA rfl rfl <| rN <| ATodo.stop <| ImpX.lq [0] ⟨true, h, rfl⟩ rfl rfl
          · rintro σ' ⟨c6, h, rfl⟩
            unfold place_CheckFixes_j1 at h
            refine ATodo.cond rfl (fun hc => ?_) (fun hc => ?_)
            · refine have h := iteT hc h; tSR <| rA rfl rfl <| rN <| ATodo.ret <| have h := outL h hA1; ?_
              obtain rfl := Option.some.inj h
              exact ImpX.here ⟨_, .cons (.tmp _ _ rfl) .nil, rfl⟩
            · refine have h := iteFb hc h; tS <| ATodo.cut (fun σ' => ∃ (c7 : Bool), place_CheckFixes_j2 n2 c7 = some z1 ∧ σ' = ⟨50, [(0, .list 5 (p0x0.map Fix.av)), (8, .list 5 (p0x0.map Fix.av)), (9, I (p0x0.length : Int)), (10, I n2), (36, .bool c7)], []⟩) ?_ ?_
              · refine ATodo.regionM (id := 10) (A := [0, 1, 3, 7, 7, 7, 39, 119, 247, 511, 1023, 2047, 4095]) 13 mixed rfl (by kernel_rfl) (by kernel_rfl) <| AM.qv (q_move rfl) rfl <| AM.qv (q_gtr rfl rfl) rfl <| AM.qv (q_move rfl) rfl <| AM.guard_dt rfl rfl rfl (fun hc => ?_) (fun hc => ?_)
                · exact have h := iteT hc h; AM.qv (q_load_ptr_all rfl rfl .p0 rfl) rfl <| AM.guard_yes rfl rfl rfl <| AM.qv (q_move rfl) rfl <| AM.guard_yes rfl rfl rfl <| AM.qv (q_move rfl) rfl <| AM.guard_yes rfl rfl rfl <| AM.qv (q_subw rfl rfl) rfl <| AM.guard_yes rfl rfl rfl <| bndE h fun v8 e3 h => AM.qv (t_index rfl rfl rfl e3 rfl rfl) rfl <| AM.guard_yes rfl rfl rfl <| AM.qv (q_load_rptr_agg rfl rfl rfl) rfl <| AM.guard_yes rfl rfl rfl <| bndE h fun v9 e4 h => AM.callp rfl (place_byDevice_c e4) (CoL.refl _) rfl <| AM.guard_yes rfl rfl rfl <| AM.qv (q_leq rfl rfl) rfl <| AM.qv (q_pick_t rfl rfl) rfl <| AM.qv (q_assign rfl) rfl <| AM.nil <| rN <| ATodo.stop <| ImpX.lq [] ⟨decide (v9 ≤ (0 : Int)), h, rfl⟩ rfl rfl
                · exact have h := iteF hc h; AM.guard_no rfl rfl rfl rfl <| AM.guard_no rfl rfl rfl rfl <| AM.guard_no rfl rfl rfl rfl <| AM.guard_no rfl rfl rfl rfl <| AM.guard_no rfl rfl rfl rfl <| AM.guard_no rfl rfl rfl rfl <| AM.guard_no rfl rfl rfl rfl <| AM.qv (q_pick_f rfl rfl) rfl <| AM.qv (q_assign rfl) rfl <| AM.nil <| rN <| ATodo.stop <| ImpX.lq [] ⟨false, h, rfl⟩ rfl rfl
              · rintro σ' ⟨c7, h, rfl⟩
                unfold place_CheckFixes_j2 at h
                refine ATodo.cond rfl (fun hc => ?_) (fun hc => ?_)
                · refine have h := iteT hc h; tSR <| rA rfl rfl <| rN <| ATodo.ret <| have h := outL h hA1; ?_
                  obtain rfl := Option.some.inj h
                  exact ImpX.here ⟨_, .cons (.tmp _ _ rfl) .nil, rfl⟩
                · refine have h := iteFb hc h; tK <| ATodo.blk <| ATodo.blk <| tR <| ARun.qv (q_addw rfl rfl) rfl <| rM rfl rfl <| rN <| ATodo.stop <| ?_
                  obtain rfl := Option.some.inj h
                  exact hJ1 _ _ rfl <| ImpX.lq [] rfl rfl rfl
      · refine have h := iteF hc h; ATodo.exit rfl <| have h := outL h hA1; tSR <| rA rfl rfl <| rN <| ATodo.ret <| ?_
        obtain rfl := Option.some.inj h
        exact ImpX.here ⟨_, .cons (.tmp _ _ rfl) .nil, rfl⟩

set_option maxHeartbeats 4000000 in
theorem place_Text_c {p0x0 : List Fix} {r : Str × Int} (h : place_Text p0x0 = some r) : Pu Tryz.prog 10 [.list 5 (p0x0.map Fix.av)] (.tup [.str r.1, I r.2]) := by
  unfold place_Text at h
  refine ACall.bodyN Tryz.func10 rfl Tryz.ntmps10 Tryz.results10 rfl rfl ?_
  refine tSR <| rA rfl rfl <| rA rfl rfl <| rN <| tS <| tSR <| rM rfl rfl <| bndE h fun v1 e1 h => r_callp rfl (place_CheckFixes_c e1) (CoL.refl _) rfl <| rA rfl rfl <| rN <| tSR <| rM rfl rfl <| ARun.qv (q_neq rfl rfl) rfl <| rN <| ATodo.cond_d rfl (fun hc => ?_) (fun hc => ?_)
  · refine have h := iteT hc h; tSR <| rM rfl rfl <| rA rfl rfl <| rA rfl rfl <| rN <| ATodo.ret <| ?_
    obtain rfl := Option.some.inj h
    exact ImpX.here ⟨_, .cons (.tmp _ _ rfl) (.cons (.tmp _ _ rfl) .nil), rfl⟩
  · refine have h := iteF hc h; tK <| tSR <| n_allocB 5 rfl rfl fun b2 => rN <| tS <| tSR <| rM rfl rfl <| ARun.qv (t_len rfl) rfl <| rM rfl rfl <| rN <| ATodo.block <| ATodo.loopI (fun x : Str × Int => place_Text_b1 p0x0 x.1 x.2) (fun x σ' => ∃ (b7 : Bk), σ' = ⟨48, [(5, .ptr b2 0), (15, .list 5 (p0x0.map Fix.av)), (16, I (p0x0.length : Int)), (17, I x.2)], [(b2, .bld 93 5 b7.blk x.1)]⟩) h ?_ ?_
    · exact ImpX.lq [0] ⟨(⟨none, 0⟩ : Bk), rfl⟩ rfl rfl
    · intro x z1 σ' J1 hmk h hJ1 hA1
      obtain ⟨q6, n8⟩ := x
      obtain ⟨b7, rfl⟩ := hmk
      replace h : place_Text_b1 p0x0 q6 n8 = some z1 := h
      unfold place_Text_b1 at h
      refine tSR <| ARun.qv (q_lss rfl rfl) rfl <| rN <| tS <| ATodo.cond_d rfl (fun hc => ?_) (fun hc => ?_)
      · refine have h := iteT hc h; tK <| tS <| ATodo.block <| tSR <| bndE h fun v9 e2 h => ARun.qv (t_index rfl rfl rfl e2 rfl rfl) rfl <| ARun.qv (q_load_rptr_agg rfl rfl rfl) rfl <| n_alloc rfl rfl rfl rfl fun b10 => n_store_ptr rfl rfl rfl rfl .p0 rfl rfl <| rN <| tSR <| rF rfl rfl rfl <| rL rfl rfl .p0 rfl rfl <| bndE h fun q11 e3 h => t_call1 rfl (strings_Builder_WriteString_c e3) (CoL.refl _) (.cons .p1 .nil) (fun _ => rfl) rfl fun b12 => rN <| tS <| tSR <| rF rfl rfl rfl <| rL rfl rfl .p1 rfl rfl <| rF rfl rfl rfl <| rL rfl rfl .p1 rfl rfl <| rF rfl rfl rfl <| rL rfl rfl .p1 rfl rfl <| rF rfl rfl rfl <| rL rfl rfl .p1 rfl rfl <| n_buildSliceL (xs := ([v9.At, v9.X, v9.Y, v9.Error] : List Int).map I) rfl rfl rfl rfl rfl rfl <| ARun.qv (t_len rfl) rfl <| rM rfl rfl <| rN <| ATodo.block <| ATodo.loopI (fun x : Str × Int => place_Text_b2 n8 v9 x.1 x.2) (fun x σ' => ∃ (b17 : Bk), σ' = ⟨48, [(5, .ptr b2 0), (15, .list 5 (p0x0.map Fix.av)), (16, I (p0x0.length : Int)), (17, I n8), (32, .list 1 ([v9.At, v9.X, v9.Y, v9.Error].map I)), (33, I ([v9.At, v9.X, v9.Y, v9.Error].length : Int)), (34, I x.2)], [(b2, .bld 93 5 b17.blk x.1)]⟩) h ?_ ?_
        · exact ImpX.lq [0] ⟨b12, rfl⟩ rfl rfl
        · intro x z2 σ' J2 hmk h hJ2 hA2
          obtain ⟨q16, n18⟩ := x
          obtain ⟨b17, rfl⟩ := hmk
          replace h : place_Text_b2 n8 v9 q16 n18 = some z2 := h
          unfold place_Text_b2 at h
          refine tSR <| ARun.qv (q_lss rfl rfl) rfl <| rN <| tS <| ATodo.cond_d rfl (fun hc => ?_) (fun hc => ?_)
          · refine have h := iteT hc h; tK <| tS <| ATodo.block <| tSR <| bndE h fun v19 e4 h => ARun.qv (t_index rfl rfl rfl e4 rfl rfl) rfl <| ARun.qv (q_load_rptr rfl rfl rfl) rfl <| rA rfl rfl <| rN <| tR <| rM rfl rfl <| bndE h fun v20 e5 h => r_callp rfl (strconv_Itoa_c e5) (CoL.refl _) rfl <| bndE h fun q21 e6 h => ARun.qv (q_sadd e6 rfl rfl) rfl <| bndE h fun q22 e7 h => t_call1 rfl (strings_Builder_WriteString_c e7) (CoL.refl _) (.cons .p0 .nil) (fun _ => rfl) rfl fun b23 => rN <| ATodo.blk <| tR <| ARun.qv (q_addw rfl rfl) rfl <| rM rfl rfl <| rN <| ATodo.stop <| ?_
            obtain rfl := Option.some.inj h
            exact hJ2 _ _ rfl <| ImpX.lq [0] ⟨b23, rfl⟩ rfl rfl
          · refine have h := iteF hc h; ATodo.exit rfl <| have h := outL h hA2; ?_
            unfold place_Text_k1 at h
            refine tR <| bndE h fun q24 e8 h => t_call1 rfl (strings_Builder_WriteString_c e8) (CoL.refl _) (.cons .p0 .nil) (fun _ => rfl) rfl fun b25 => rN <| ATodo.blk <| tR <| ARun.qv (q_addw rfl rfl) rfl <| rM rfl rfl <| rN <| ATodo.stop <| ?_
            obtain rfl := Option.some.inj h
            exact hJ1 _ _ rfl <| ImpX.lq [0] ⟨b25, rfl⟩ rfl rfl
      · refine have h := iteF hc h; ATodo.exit rfl <| have h := outL h hA1; ?_
        unfold place_Text_k2 at h
        refine tS <| tSR <| t_call0 rfl strings_Builder_Len_c (CoL.refl _) (.cons .p0 .nil) rfl rfl <| ARun.qv (q_gtr rfl rfl) rfl <| rN <| ATodo.cond_d rfl (fun hc => ?_) (fun hc => ?_)
        · refine have h := iteT hc h; tSR <| rA rfl rfl <| rA rfl rfl <| rN <| ATodo.ret <| ?_
          obtain rfl := Option.some.inj h
          exact ImpX.here ⟨_, .cons (.tmp _ _ rfl) (.cons (.tmp _ _ rfl) .nil), rfl⟩
        · refine have h := iteF hc h; tK <| tSR <| t_call0 rfl strings_Builder_String_c (CoL.refl _) (.cons .p0 .nil) rfl rfl <| rA rfl rfl <| rA rfl rfl <| rN <| ATodo.ret <| ?_
          obtain rfl := Option.some.inj h
          exact ImpX.here ⟨_, .cons (.tmp _ _ rfl) (.cons (.tmp _ _ rfl) .nil), rfl⟩

set_option maxHeartbeats 4000000 in
theorem base_Words_c {p0x0 : Str} {p1x0 : Int} {r : (List Str) × Bool} (h : base_Words p0x0 p1x0 = some r) : ACall Tryz.prog 67 [.str p0x0, I p1x0] [] (T1 (fun d_0 => [(d_0, .arr 1 (r.1.map AV.str))]) (fun d_0 => .tup [.sl 1 d_0 0 r.1.length, .bool r.2])) := by
  unfold base_Words at h
  refine ACall.lessH ?_
  refine ACall.bodyN Tryz.func67 rfl Tryz.ntmps67 Tryz.results67 rfl rfl ?_
  refine tSR <| rA rfl rfl <| rA rfl rfl <| rN <| tSR <| rM rfl rfl <| bndE h fun v1 e1 h => t_call1 rfl (strings_Split_c e1) (CoL.refl _) .nil (fun _ => rfl) rfl fun b2 => rA rfl rfl <| rN <| tS <| tSR <| rM rfl rfl <| ARun.qv (t_len_sl rfl) rfl <| rM rfl rfl <| ARun.qv (q_neq rfl rfl) rfl <| rN <| ATodo.cond_d rfl (fun hc => ?_) (fun hc => ?_)
  · refine have h := iteT hc h; tSR <| rA rfl rfl <| rA rfl rfl <| rN <| ATodo.ret <| ?_
    obtain rfl := Option.some.inj h
    exact ImpX.arr (s := 4) 1 rfl fun b3 => ImpX.here ⟨_, .cons (.tmp _ _ rfl) (.cons (.tmp _ _ rfl) .nil), _, .cons .p0 .nil, ⟨b3, rfl, rfl⟩⟩
  · refine have h := iteF hc h; tK <| tS <| tSR <| rM rfl rfl <| ARun.qv (t_len_sl rfl) rfl <| rM rfl rfl <| rN <| ATodo.block <| ATodo.loopI (fun x : Int => base_Words_b1 v1 x) (fun x σ' => σ' = ⟨25, [(6, .sl 1 b2 0 v1.length), (15, .sl 1 b2 0 v1.length), (16, I (v1.length : Int)), (17, I x)], [(b2, .arr 1 (v1.map AV.str))]⟩) h ?_ ?_
    · exact ImpX.lq [0] rfl rfl rfl
    · intro n5 z1 σ' J1 hmk h hJ1 hA1
      obtain rfl := hmk
      replace h : base_Words_b1 v1 n5 = some z1 := h
      unfold base_Words_b1 at h
      refine tSR <| ARun.qv (q_lss rfl rfl) rfl <| rN <| tS <| ATodo.cond_d rfl (fun hc => ?_) (fun hc => ?_)
      · refine have h := iteT hc h; tK <| tS <| ATodo.block <| tSR <| bndE h fun v6 e2 h => ARun.qv (t_index_sl rfl rfl rfl e2) rfl <| ARun.qv (t_load_aptr (g := AV.str) rfl rfl (.inl .p0) e2 rfl) rfl <| rA rfl rfl <| rN <| tSR <| rM rfl rfl <| ARun.qv (q_seq rfl rfl) rfl <| rN <| ATodo.cond_d rfl (fun hc => ?_) (fun hc => ?_)
        · refine have h := iteT hc h; tSR <| rA rfl rfl <| rA rfl rfl <| rN <| ATodo.ret <| have h := outL h hA1; ?_
          obtain rfl := Option.some.inj h
          exact ImpX.arr (s := 4) 1 rfl fun b7 => ImpX.here ⟨_, .cons (.tmp _ _ rfl) (.cons (.tmp _ _ rfl) .nil), _, .cons .p0 .nil, ⟨b7, rfl, rfl⟩⟩
        · refine have h := iteF hc h; tK <| ATodo.blk <| tR <| ARun.qv (q_addw rfl rfl) rfl <| rM rfl rfl <| rN <| ATodo.stop <| ?_
          obtain rfl := Option.some.inj h
          exact hJ1 _ _ rfl <| ImpX.lq [0] rfl rfl rfl
      · refine have h := iteF hc h; ATodo.exit rfl <| have h := outL h hA1; tSR <| rM rfl rfl <| rA rfl rfl <| rA rfl rfl <| rN <| ATodo.ret <| ?_
        obtain rfl := Option.some.inj h
        exact ImpX.here ⟨_, .cons (.tmp _ _ rfl) (.cons (.tmp _ _ rfl) .nil), _, .cons .p0 .nil, ⟨b2, rfl, rfl⟩⟩

set_option maxHeartbeats 4000000 in
theorem base_Number_c {p0x0 : Str} {p1x0 : Int} {r : Int × Bool} (h : base_Number p0x0 p1x0 = some r) : Pu Tryz.prog 129 [.str p0x0, I p1x0] (.tup [I r.1, .bool r.2]) := by
  unfold base_Number at h
  refine ACall.bodyN Tryz.func129 rfl Tryz.ntmps129 Tryz.results129 rfl rfl ?_
  refine tSR <| rA rfl rfl <| rA rfl rfl <| rN <| tSR <| rM rfl rfl <| r_callp rfl (strings_TrimPrefix_c rfl) (CoL.refl _) rfl <| rA rfl rfl <| rN <| tS <| tS <| ATodo.cut (fun σ' => ∃ (c1 : Bool), base_Number_j1 p0x0 c1 = some r ∧ σ' = ⟨61, [(0, .str p0x0), (6, .str (Lib.trimPrefix p0x0 ([45] : Str))), (36, .bool c1)], []⟩) ?_ ?_
  · refine tR <| rM rfl rfl <| ARun.qv (q_seq rfl rfl) rfl <| rM rfl rfl <| ARun.guard_df rfl rfl rfl (fun hc => ?_) (fun hc => ?_)
    · refine have h := iteF hc h; rM rfl rfl <| rY rfl rfl rfl <| ARun.qv (q_len_str rfl) rfl <| rY rfl rfl rfl <| rM rfl rfl <| rY rfl rfl rfl <| ARun.qv (q_gtr rfl rfl) rfl <| rE rfl rfl rfl <| rM rfl rfl <| ARun.guard_df rfl rfl rfl (fun hc => ?_) (fun hc => ?_)
      · refine have h := iteF hc h; rM rfl rfl <| rY rfl rfl rfl <| bndE h fun c2 e1 h => ARun.qv (t_index_str rfl rfl e1) rfl <| rY rfl rfl rfl <| ARun.qv (q_eql rfl rfl) rfl <| rY rfl rfl rfl <| rM rfl rfl <| ARun.guard_dt rfl rfl rfl (fun hc => ?_) (fun hc => ?_)
        · rw [andTd hc] at h
          refine rM rfl rfl <| rY rfl rfl rfl <| ARun.qv (q_len_str rfl) rfl <| rY rfl rfl rfl <| ARun.qv (q_gtr rfl rfl) rfl <| rY rfl rfl rfl <| rM rfl rfl <| ARun.guard_df rfl rfl rfl (fun hc => ?_) (fun hc => ?_)
          · rw [orFd hc] at h
            exact rM rfl rfl <| rY rfl rfl rfl <| ARun.qv (q_len_str rfl) rfl <| rY rfl rfl rfl <| rM rfl rfl <| rY rfl rfl rfl <| ARun.qv (q_len_str rfl) rfl <| rY rfl rfl rfl <| ARun.qv (q_gtr rfl rfl) rfl <| rY rfl rfl rfl <| rE rfl rfl rfl <| rY rfl rfl rfl <| rT rfl rfl rfl <| rE rfl rfl rfl <| rN <| ATodo.stop <| ImpX.lq [] ⟨decide (((Lib.trimPrefix p0x0 ([45] : Str)).length : Int) < (p0x0.length : Int)), h, rfl⟩ rfl rfl
          · rw [orTd hc] at h
            exact rG rfl rfl rfl rfl <| rG rfl rfl rfl rfl <| rG rfl rfl rfl rfl <| rG rfl rfl rfl rfl <| rY rfl rfl rfl <| rT rfl rfl rfl <| rY rfl rfl rfl <| rT rfl rfl rfl <| rE rfl rfl rfl <| rN <| ATodo.stop <| ImpX.lq [] ⟨true, h, rfl⟩ rfl rfl
        · rw [andFd hc] at h
          exact rG rfl rfl rfl rfl <| rG rfl rfl rfl rfl <| rG rfl rfl rfl rfl <| ARun.guard_und rfl rfl rfl <| ARun.guard_und rfl rfl rfl <| ARun.guard_und rfl rfl rfl <| ARun.guard_und rfl rfl rfl <| ARun.guard_und rfl rfl rfl <| rG rfl rfl rfl rfl <| rY rfl rfl rfl <| rE rfl rfl rfl <| rE rfl rfl rfl <| rN <| ATodo.stop <| ImpX.lq [] ⟨false, h, rfl⟩ rfl rfl
      · exact have h := iteT hc h; rG rfl rfl rfl rfl <| rG rfl rfl rfl rfl <| rG rfl rfl rfl rfl <| ARun.guard_und rfl rfl rfl <| ARun.guard_und rfl rfl rfl <| ARun.guard_und rfl rfl rfl <| ARun.guard_und rfl rfl rfl <| ARun.guard_und rfl rfl rfl <| ARun.guard_und rfl rfl rfl <| ARun.guard_und rfl rfl rfl <| ARun.guard_und rfl rfl rfl <| ARun.guard_und rfl rfl rfl <| ARun.guard_und rfl rfl rfl <| rG rfl rfl rfl rfl <| rT rfl rfl rfl <| rN <| ATodo.stop <| ImpX.lq [] ⟨true, h, rfl⟩ rfl rfl
    · exact have h := iteT hc h; rG rfl rfl rfl rfl <| rG rfl rfl rfl rfl <| rG rfl rfl rfl rfl <| rT rfl rfl rfl <| rM rfl rfl <| rG rfl rfl rfl rfl <| rG rfl rfl rfl rfl <| rG rfl rfl rfl rfl <| rG rfl rfl rfl rfl <| ARun.guard_und rfl rfl rfl <| ARun.guard_und rfl rfl rfl <| ARun.guard_und rfl rfl rfl <| ARun.guard_und rfl rfl rfl <| ARun.guard_und rfl rfl rfl <| ARun.guard_und rfl rfl rfl <| ARun.guard_und rfl rfl rfl <| ARun.guard_und rfl rfl rfl <| ARun.guard_und rfl rfl rfl <| ARun.guard_und rfl rfl rfl <| rG rfl rfl rfl rfl <| rT rfl rfl rfl <| rN <| ATodo.stop <| ImpX.lq [] ⟨true, h, rfl⟩ rfl rfl
  · rintro σ' ⟨c1, h, rfl⟩
    unfold base_Number_j1 at h
    refine ATodo.cond rfl (fun hc => ?_) (fun hc => ?_)
    · refine have h := iteT hc h; tSR <| rA rfl rfl <| rA rfl rfl <| rN <| ATodo.ret <| ?_
      obtain rfl := Option.some.inj h
      exact ImpX.here ⟨_, .cons (.tmp _ _ rfl) (.cons (.tmp _ _ rfl) .nil), rfl⟩
    · refine have h := iteFb hc h; tK <| tS <| tSR <| rM rfl rfl <| ARun.qv (q_len_str rfl) rfl <| rM rfl rfl <| rN <| ATodo.block <| ATodo.loopI (fun x : Int => base_Number_b1 p0x0 x) (fun x σ' => σ' = ⟨61, [(0, .str p0x0), (6, .str (Lib.trimPrefix p0x0 ([45] : Str))), (38, I ((Lib.trimPrefix p0x0 ([45] : Str)).length : Int)), (39, I x)], []⟩) h ?_ ?_
      · exact ImpX.lq [] rfl rfl rfl
      · intro n4 z1 σ' J1 hmk h hJ1 hA1
        obtain rfl := hmk
        replace h : base_Number_b1 p0x0 n4 = some z1 := h
        unfold base_Number_b1 at h
        refine tSR <| ARun.qv (q_lss rfl rfl) rfl <| rN <| tS <| ATodo.cond_d rfl (fun hc => ?_) (fun hc => ?_)
        · refine have h := iteT hc h; tK <| tS <| ATodo.block <| tSR <| rM rfl rfl <| rA rfl rfl <| rN <| tS <| ATodo.cut (fun σ' => ∃ (c5 : Bool), base_Number_j2 n4 c5 = some z1 ∧ σ' = ⟨61, [(0, .str p0x0), (6, .str (Lib.trimPrefix p0x0 ([45] : Str))), (38, I ((Lib.trimPrefix p0x0 ([45] : Str)).length : Int)), (39, I n4), (51, .bool c5)], []⟩) ?_ ?_
          · refine tR <| rM rfl rfl <| rM rfl rfl <| bndE h fun c6 e2 h => ARun.qv (t_index_str rfl rfl e2) rfl <| ARun.qv (q_lss rfl rfl) rfl <| rM rfl rfl <| ARun.guard_df rfl rfl rfl (fun hc => ?_) (fun hc => ?_)
            · exact have h := iteF hc h; rM rfl rfl <| rY rfl rfl rfl <| rM rfl rfl <| rY rfl rfl rfl <| bndE h fun c7 e3 h => ARun.qv (t_index_str rfl rfl e3) rfl <| rY rfl rfl rfl <| ARun.qv (q_gtr rfl rfl) rfl <| rE rfl rfl rfl <| rN <| ATodo.stop <| ImpX.lq [] ⟨decide ((57 : Int) < (c7.toNat : Int)), h, rfl⟩ rfl rfl
            · exact have h := iteT hc h; rG rfl rfl rfl rfl <| rG rfl rfl rfl rfl <| rG rfl rfl rfl rfl <| rT rfl rfl rfl <| rN <| ATodo.stop <| ImpX.lq [] ⟨true, h, rfl⟩ rfl rfl
          · rintro σ' ⟨c5, h, rfl⟩
            unfold base_Number_j2 at h
            refine ATodo.cond rfl (fun hc => ?_) (fun hc => ?_)
            · refine have h := iteT hc h; tSR <| rA rfl rfl <| rA rfl rfl <| rN <| ATodo.ret <| have h := outL h hA1; ?_
              obtain rfl := Option.some.inj h
              exact ImpX.here ⟨_, .cons (.tmp _ _ rfl) (.cons (.tmp _ _ rfl) .nil), rfl⟩
            · refine have h := iteFb hc h; tK <| ATodo.blk <| tR <| ARun.qv (q_addw rfl rfl) rfl <| rM rfl rfl <| rN <| ATodo.stop <| ?_
              obtain rfl := Option.some.inj h
              exact hJ1 _ _ rfl <| ImpX.lq [] rfl rfl rfl
        · refine have h := iteF hc h; ATodo.exit rfl <| have h := outL h hA1; ?_
          unfold base_Number_k3 at h
          refine tSR <| rM rfl rfl <| bndE h fun v8 e4 h => t_callE rfl (strconv_Atoi_c e4) (CoL.refl _) rfl fun e9 e5 => rM rfl rfl <| rX rfl rfl rfl <| rX rfl rfl rfl <| rA rfl rfl <| rA rfl rfl <| rN <| tS <| ATodo.regionM (id := 11) (A := [0, 0, 2, 1, 15]) 5 mixed rfl (by kernel_rfl) (by kernel_rfl) <| AM.qv (q_move rfl) rfl <| AM.qv (q_move rfl) rfl <| AM.qv (q_eqE e5 rfl) rfl <| AM.qv (q_assign rfl) rfl <| AM.qv (q_assign rfl) rfl <| AM.nil <| rN <| ATodo.ret <| ?_
          obtain rfl := Option.some.inj h
          exact ImpX.here ⟨_, .cons (.tmp _ _ rfl) (.cons (.tmp _ _ rfl) .nil), rfl⟩

set_option maxHeartbeats 4000000 in
theorem base_Numbers_c {p0x0 : List Str} {p1x0 : Int} {r : (List Int) × Bool} (h : base_Numbers p0x0 p1x0 = some r) : ACall Tryz.prog 68 [.list 1 (p0x0.map AV.str), I p1x0] [] (T1 (fun d_0 => [(d_0, .arr 1 (r.1.map I))]) (fun d_0 => .tup [.sl 1 d_0 0 r.1.length, .bool r.2])) := by
  unfold base_Numbers at h
  refine ACall.lessH ?_
  refine ACall.bodyN Tryz.func68 rfl Tryz.ntmps68 Tryz.results68 rfl rfl ?_
  refine tSR <| rA rfl rfl <| rA rfl rfl <| rN <| tSR <| rA rfl rfl <| rN <| tS <| tSR <| rM rfl rfl <| ARun.qv (t_len rfl) rfl <| rM rfl rfl <| rN <| ATodo.block <| ATodo.loopI (fun x : (List Int) × Int => base_Numbers_b1 p0x0 p1x0 x.1 x.2) (fun x σ' => ∃ (b4 : Bk), σ' = ⟨31, [(1, I p1x0), (6, .sl 1 b4 0 x.1.length), (11, .list 1 (p0x0.map AV.str)), (12, I (p0x0.length : Int)), (13, I x.2)], [(b4, .arr 1 (x.1.map I))]⟩) h ?_ ?_
  · exact ImpX.arr (s := 6) 1 rfl fun b7 => ImpX.lq [0] ⟨b7, rfl⟩ rfl rfl
  · intro x z1 σ' J1 hmk h hJ1 hA1
    obtain ⟨l5, n6⟩ := x
    obtain ⟨b4, rfl⟩ := hmk
    replace h : base_Numbers_b1 p0x0 p1x0 l5 n6 = some z1 := h
    unfold base_Numbers_b1 at h
    refine tSR <| ARun.qv (q_lss rfl rfl) rfl <| rN <| tS <| ATodo.cond_d rfl (fun hc => ?_) (fun hc => ?_)
    · refine have h := iteT hc h; tK <| tS <| ATodo.block <| tSR <| bndE h fun v8 e1 h => ARun.qv (t_index rfl rfl rfl e1 rfl rfl) rfl <| ARun.qv (q_load_rptr rfl rfl rfl) rfl <| rA rfl rfl <| rN <| tSR <| rM rfl rfl <| rM rfl rfl <| bndE h fun v9 e2 h => r_callp rfl (base_Number_c e2) (CoL.refl _) rfl <| rM rfl rfl <| rX rfl rfl rfl <| rX rfl rfl rfl <| rA rfl rfl <| rA rfl rfl <| rN <| tS <| tSR <| rM rfl rfl <| ARun.qv (q_not rfl) rfl <| rN <| ATodo.cond rfl (fun hc => ?_) (fun hc => ?_)
      · refine have h := iteT hc h; tSR <| rA rfl rfl <| rA rfl rfl <| rN <| ATodo.ret <| have h := outL h hA1; ?_
        obtain rfl := Option.some.inj h
        exact ImpX.arr (s := 4) 1 rfl fun b10 => ImpX.here ⟨_, .cons (.tmp _ _ rfl) (.cons (.tmp _ _ rfl) .nil), _, .cons .p0 .nil, ⟨b10, rfl, rfl⟩⟩
      · refine have h := iteFb hc h; tK <| tR <| rM rfl rfl <| rM rfl rfl <| n_buildSliceL (xs := ([v9.1] : List Int).map I) rfl rfl rfl rfl rfl rfl <| bndE h fun l11 e3 h => t_append (g := I) rfl rfl rfl rfl rfl rfl rfl rfl (.list _) e3 (fun _ => .p0) rfl fun b12 => rA rfl rfl <| rN <| ATodo.blk <| tR <| ARun.qv (q_addw rfl rfl) rfl <| rM rfl rfl <| rN <| ATodo.stop <| ?_
        obtain rfl := Option.some.inj h
        exact hJ1 _ _ rfl <| ImpX.lq [0] ⟨b12, rfl⟩ rfl rfl
    · refine have h := iteF hc h; ATodo.exit rfl <| have h := outL h hA1; tSR <| rM rfl rfl <| rA rfl rfl <| rA rfl rfl <| rN <| ATodo.ret <| ?_
      obtain rfl := Option.some.inj h
      exact ImpX.here ⟨_, .cons (.tmp _ _ rfl) (.cons (.tmp _ _ rfl) .nil), _, .cons .p0 .nil, ⟨b4, rfl, rfl⟩⟩

set_option maxHeartbeats 4000000 in
theorem place_Read_1x_c {b_1 : Bk} {b_1x0 : Bk} {p0x0 : Str} {p1x0 : List Fix} {r : Bool × (List Fix)} (h : place_Read_1x p0x0 p1x0 = some r) : ACall Tryz.prog 66 [.str p0x0, .ptr b_1 0] [(b_1, .cells [.sl 5 b_1x0 0 p1x0.length]), (b_1x0, .arr 5 (p1x0.map Fix.av))] (T1 (fun c_1x0 => [(b_1, .cells [.sl 5 c_1x0 0 r.2.length]), (c_1x0, .arr 5 (r.2.map Fix.av))]) (fun c_1x0 => .bool r.1)) := by
  unfold place_Read_1x at h
  refine ACall.lessH ?_
  refine ACall.bodyN Tryz.func66 rfl Tryz.ntmps66 Tryz.results66 rfl rfl ?_
  refine tSR <| rA rfl rfl <| rN <| tSR <| rM rfl rfl <| bndE h fun v1 e1 h => t_call1 rfl (base_Words_c e1) (CoL.refl _) .nil (fun _ => rfl) rfl fun b2 => rM rfl rfl <| rX rfl rfl rfl <| rX rfl rfl rfl <| rA rfl rfl <| rA rfl rfl <| rN <| tS <| tSR <| rM rfl rfl <| ARun.qv (q_not rfl) rfl <| rN <| ATodo.cond rfl (fun hc => ?_) (fun hc => ?_)
  · refine have h := iteT hc h; tSR <| rA rfl rfl <| rN <| ATodo.ret <| ?_
    obtain rfl := Option.some.inj h
    exact ImpX.here ⟨_, .cons (.tmp _ _ rfl) .nil, _, .cons .p1 (.cons .p1 .nil), ⟨b_1x0, rfl, rfl⟩⟩
  · refine have h := iteFb hc h; tK <| tSR <| rM rfl rfl <| bndE h fun l3 e2 h => ARun.qv (t_slice_sl rfl rfl (.some _ _ _ rfl) .none rfl rfl e2) rfl <| bndE h fun v4 e3 h => t_callL1 rfl (base_Numbers_c e3) .nil (.cons (CoB.partT e2 .p0) (.cons (.co (.refl _)) .nil)) (fun _ => rfl) (fun _ => rfl) (fun _ => (.cons (NoS.arrT (fun _ => rfl)) .nil)) rfl fun b5 => rM rfl rfl <| rX rfl rfl rfl <| rX rfl rfl rfl <| rA rfl rfl <| rA rfl rfl <| rN <| tS <| tSR <| rM rfl rfl <| rN <| ATodo.cut (fun σ' => ∃ (b6 : Bk) (l7 : List Fix), place_Read_1x_j1 v4 l7 = some r ∧ σ' = ⟨41, [(5, .bool v4.2)], [(b_1, .cells [.sl 5 b6 0 l7.length]), (b6, .arr 5 (l7.map Fix.av))]⟩) ?_ ?_
    · refine ATodo.cond rfl (fun hc => ?_) (fun hc => ?_)
      · exact have h := iteT hc h; ATodo.regionM (id := 6) (A := [0, 0, 2, 6, 0, 16, 48, 0, 128, 384, 0, 1024, 3072, 0, 8192, 24576, 65534, 131070, 262143, 524287]) 18 mixed rfl (by kernel_rfl) (by kernel_rfl) <| AM.qv (q_load_ptr rfl rfl .p2 rfl) rfl <| AM.qv (q_move rfl) rfl <| bndE h fun v8 e4 h => AM.qv (t_index_sl rfl rfl rfl e4) rfl <| AM.qv (t_load_aptr (g := AV.str) rfl rfl (.inl .p1) e4 rfl) rfl <| AM.qv (q_move rfl) rfl <| bndE h fun v9 e5 h => AM.qv (t_index_sl rfl rfl rfl e5) rfl <| AM.qv (t_load_aptr (g := I) rfl rfl (.inl .p0) e5 rfl) rfl <| AM.qv (q_move rfl) rfl <| bndE h fun v10 e6 h => AM.qv (t_index_sl rfl rfl rfl e6) rfl <| AM.qv (t_load_aptr (g := I) rfl rfl (.inl .p0) e6 rfl) rfl <| AM.qv (q_move rfl) rfl <| bndE h fun v11 e7 h => AM.qv (t_index_sl rfl rfl rfl e7) rfl <| AM.qv (t_load_aptr (g := I) rfl rfl (.inl .p0) e7 rfl) rfl <| AM.qv (q_move rfl) rfl <| bndE h fun v12 e8 h => AM.qv (t_index_sl rfl rfl rfl e8) rfl <| AM.qv (t_load_aptr (g := I) rfl rfl (.inl .p0) e8 rfl) rfl <| AM.qv (n_build rfl rfl rfl rfl rfl) rfl <| AM.buildSliceL (xs := ([(⟨v8, v9, v10, v11, v12⟩ : Fix)]).map Fix.av) rfl rfl rfl rfl rfl rfl <| AM.nil <| bndE h fun l13 e9 h => t_append (g := Fix.av) rfl rfl rfl rfl rfl rfl rfl rfl (.list _) e9 (fun _ => .p3) rfl fun b14 => n_store_ptr rfl rfl rfl rfl .p2 rfl rfl <| rN <| ATodo.stop <| ImpX.lq [2, 2] ⟨b14, l13, h, rfl⟩ rfl rfl
      · exact have h := iteFb hc h; tK <| ATodo.stop <| ImpX.lq [2, 2] ⟨b_1x0, p1x0, h, rfl⟩ rfl rfl
    · rintro σ' ⟨b6, l7, h, rfl⟩
      unfold place_Read_1x_j1 at h
      refine tSR <| rM rfl rfl <| rA rfl rfl <| rN <| ATodo.ret <| ?_
      obtain rfl := Option.some.inj h
      exact ImpX.here ⟨_, .cons (.tmp _ _ rfl) .nil, _, .cons .p0 (.cons .p0 .nil), ⟨b6, rfl, rfl⟩⟩

set_option maxHeartbeats 4000000 in
theorem internal_stringslite_HasSuffix_c [GI : GTab] {p0x0 : Str} {p1x0 : Str} {r : Bool} (h : internal_stringslite_HasSuffix p0x0 p1x0 = some r) : Pu Tryz.prog 250 [.str p0x0, .str p1x0] (.bool r) := by
  unfold internal_stringslite_HasSuffix at h
  refine ACall.bodyN Tryz.func250 rfl Tryz.ntmps250 Tryz.results250 rfl rfl ?_
  refine tSR <| rA rfl rfl <| rN <| tS <| ATodo.cut (fun σ' => ∃ (c1 : Bool), internal_stringslite_HasSuffix_j1 c1 = some r ∧ σ' = ⟨21, [(4, .bool c1)], []⟩) ?_ ?_
  · refine tR <| rM rfl rfl <| ARun.qv (q_len_str rfl) rfl <| rM rfl rfl <| ARun.qv (q_len_str rfl) rfl <| ARun.qv (q_geq rfl rfl) rfl <| rM rfl rfl <| ARun.guard_dt rfl rfl rfl (fun hc => ?_) (fun hc => ?_)
    · exact have h := iteT hc h; rM rfl rfl <| rY rfl rfl rfl <| rM rfl rfl <| rY rfl rfl rfl <| ARun.qv (q_len_str rfl) rfl <| rY rfl rfl rfl <| rM rfl rfl <| rY rfl rfl rfl <| ARun.qv (q_len_str rfl) rfl <| rY rfl rfl rfl <| ARun.qv (q_subw rfl rfl) rfl <| rY rfl rfl rfl <| bndE h fun l2 e1 h => ARun.qv (t_slice_str rfl (.some _ _ _ rfl) .none rfl rfl e1) rfl <| rY rfl rfl rfl <| rM rfl rfl <| rY rfl rfl rfl <| ARun.qv (q_seq rfl rfl) rfl <| rT rfl rfl rfl <| rA rfl rfl <| rN <| ATodo.stop <| ImpX.lq [] ⟨decide (l2 = p1x0), h, rfl⟩ rfl rfl
    · exact have h := iteF hc h; rG rfl rfl rfl rfl <| rG rfl rfl rfl rfl <| rG rfl rfl rfl rfl <| rG rfl rfl rfl rfl <| rG rfl rfl rfl rfl <| rG rfl rfl rfl rfl <| rG rfl rfl rfl rfl <| rG rfl rfl rfl rfl <| rE rfl rfl rfl <| rA rfl rfl <| rN <| ATodo.stop <| ImpX.lq [] ⟨false, h, rfl⟩ rfl rfl
  · rintro σ' ⟨c1, h, rfl⟩
    unfold internal_stringslite_HasSuffix_j1 at h
    refine ATodo.ret <| ?_
    obtain rfl := Option.some.inj h
    exact ImpX.here ⟨_, .cons (.tmp _ _ rfl) .nil, rfl⟩

set_option maxHeartbeats 4000000 in
theorem internal_stringslite_CutSuffix_c [GI : GTab] {p0x0 : Str} {p1x0 : Str} {r : Str × Bool} (h : internal_stringslite_CutSuffix p0x0 p1x0 = some r) : Pu Tryz.prog 218 [.str p0x0, .str p1x0] (.tup [.str r.1, .bool r.2]) := by
  unfold internal_stringslite_CutSuffix at h
  refine ACall.bodyN Tryz.func218 rfl Tryz.ntmps218 Tryz.results218 rfl rfl ?_
  refine tSR <| rA rfl rfl <| rA rfl rfl <| rN <| tS <| tSR <| rM rfl rfl <| rM rfl rfl <| bndE h fun v1 e1 h => r_callp rfl (internal_stringslite_HasSuffix_c e1) (CoL.refl _) rfl <| ARun.qv (q_not rfl) rfl <| rN <| ATodo.cond rfl (fun hc => ?_) (fun hc => ?_)
  · refine have h := iteT hc h; tSR <| rM rfl rfl <| rA rfl rfl <| rA rfl rfl <| rN <| ATodo.ret <| ?_
    obtain rfl := Option.some.inj h
    exact ImpX.here ⟨_, .cons (.tmp _ _ rfl) (.cons (.tmp _ _ rfl) .nil), rfl⟩
  · refine have h := iteFb hc h; tK <| tSR <| rM rfl rfl <| rM rfl rfl <| ARun.qv (q_len_str rfl) rfl <| rM rfl rfl <| ARun.qv (q_len_str rfl) rfl <| ARun.qv (q_subw rfl rfl) rfl <| bndE h fun l2 e2 h => ARun.qv (t_slice_str rfl .none (.some _ _ _ rfl) rfl rfl e2) rfl <| rA rfl rfl <| rA rfl rfl <| rN <| ATodo.ret <| ?_
    obtain rfl := Option.some.inj h
    exact ImpX.here ⟨_, .cons (.tmp _ _ rfl) (.cons (.tmp _ _ rfl) .nil), rfl⟩

set_option maxHeartbeats 4000000 in
theorem strings_CutSuffix_c [GI : GTab] {p0x0 : Str} {p1x0 : Str} {r : Str × Bool} (h : strings_CutSuffix p0x0 p1x0 = some r) : Pu Tryz.prog 174 [.str p0x0, .str p1x0] (.tup [.str r.1, .bool r.2]) := by
  unfold strings_CutSuffix at h
  refine ACall.bodyN Tryz.func174 rfl Tryz.ntmps174 Tryz.results174 rfl rfl ?_
  refine tSR <| rA rfl rfl <| rA rfl rfl <| rN <| tSR <| rM rfl rfl <| rM rfl rfl <| bndE h fun v1 e1 h => r_callp rfl (internal_stringslite_CutSuffix_c e1) (CoL.refl _) rfl <| rX rfl rfl rfl <| rX rfl rfl rfl <| rA rfl rfl <| rA rfl rfl <| rN <| ATodo.ret <| ?_
  obtain rfl := Option.some.inj h
  exact ImpX.here ⟨_, .cons (.tmp _ _ rfl) (.cons (.tmp _ _ rfl) .nil), rfl⟩

set_option maxHeartbeats 4000000 in
theorem base_Lines_c {p0x0 : Str} {r : (List Str) × Bool} (h : base_Lines p0x0 = some r) : ACall Tryz.prog 128 [.str p0x0] [] (T1 (fun d_0 => [(d_0, .arr 1 (r.1.map AV.str))]) (fun d_0 => .tup [.sl 1 d_0 0 r.1.length, .bool r.2])) := by
  unfold base_Lines at h
  refine ACall.lessH ?_
  refine ACall.bodyN Tryz.func128 rfl Tryz.ntmps128 Tryz.results128 rfl rfl ?_
  refine tSR <| rA rfl rfl <| rA rfl rfl <| rN <| tS <| tSR <| rM rfl rfl <| ARun.qv (q_seq rfl rfl) rfl <| rN <| ATodo.cond_d rfl (fun hc => ?_) (fun hc => ?_)
  · refine have h := iteT hc h; tSR <| rA rfl rfl <| rA rfl rfl <| rN <| ATodo.ret <| ?_
    obtain rfl := Option.some.inj h
    exact ImpX.arr (s := 2) 1 rfl fun b1 => ImpX.here ⟨_, .cons (.tmp _ _ rfl) (.cons (.tmp _ _ rfl) .nil), _, .cons .p0 .nil, ⟨b1, rfl, rfl⟩⟩
  · refine have h := iteF hc h; tK <| tSR <| rM rfl rfl <| bndE h fun v2 e1 h => r_callp rfl (strings_CutSuffix_c e1) (CoL.refl _) rfl <| rM rfl rfl <| rX rfl rfl rfl <| rX rfl rfl rfl <| rA rfl rfl <| rA rfl rfl <| rN <| tSR <| rM rfl rfl <| bndE h fun v3 e2 h => t_call1 rfl (strings_Split_c e2) (CoL.refl _) .nil (fun _ => rfl) rfl fun b4 => rM rfl rfl <| rA rfl rfl <| rA rfl rfl <| rN <| ATodo.ret <| ?_
    obtain rfl := Option.some.inj h
    exact ImpX.here ⟨_, .cons (.tmp _ _ rfl) (.cons (.tmp _ _ rfl) .nil), _, .cons .p0 .nil, ⟨b4, rfl, rfl⟩⟩

set_option maxHeartbeats 4000000 in
theorem base_Each_f1x_place_Read_1x_c {b_2 : Bk} {b_2x0 : Bk} {p0x0 : Str} {p2x0 : List Fix} {r : Int × Bool × (List Fix)} (h : base_Each_f1x_place_Read_1x p0x0 p2x0 = some r) : ACall Tryz.prog 65 [.str p0x0, .func (.func 66) [.ptr b_2 0]] [(b_2, .cells [.sl 5 b_2x0 0 p2x0.length]), (b_2x0, .arr 5 (p2x0.map Fix.av))] (T1 (fun c_2x0 => [(b_2, .cells [.sl 5 c_2x0 0 r.2.2.length]), (c_2x0, .arr 5 (r.2.2.map Fix.av))]) (fun c_2x0 => .tup [I r.1, .bool r.2.1])) := by
  unfold base_Each_f1x_place_Read_1x at h
  refine ACall.lessH ?_
  refine ACall.bodyN Tryz.func65 rfl Tryz.ntmps65 Tryz.results65 rfl rfl ?_
  refine tSR <| rA rfl rfl <| rA rfl rfl <| rN <| tSR <| rM rfl rfl <| bndE h fun v1 e1 h => t_call1 rfl (base_Lines_c e1) (CoL.refl _) .nil (fun _ => rfl) rfl fun b2 => rM rfl rfl <| rX rfl rfl rfl <| rX rfl rfl rfl <| rA rfl rfl <| rA rfl rfl <| rN <| tS <| tSR <| rM rfl rfl <| ARun.qv (t_len_sl rfl) rfl <| rM rfl rfl <| rN <| ATodo.block <| ATodo.loopI (fun x : (List Fix) × Int => base_Each_f1x_place_Read_1x_b1 v1 x.1 x.2) (fun x σ' => ∃ (b6 : Bk), σ' = ⟨39, [(1, .func (.func 66) [.ptr b_2 0]), (6, .sl 1 b2 0 v1.1.length), (7, .bool v1.2), (15, .sl 1 b2 0 v1.1.length), (16, I (v1.1.length : Int)), (17, I x.2)], [(b_2, .cells [.sl 5 b6 0 x.1.length]), (b6, .arr 5 (x.1.map Fix.av)), (b2, .arr 1 (v1.1.map AV.str))]⟩) h ?_ ?_
  · exact ImpX.lq [1, 1, 0] ⟨b_2x0, rfl⟩ rfl rfl
  · intro x z1 σ' J1 hmk h hJ1 hA1
    obtain ⟨l7, n8⟩ := x
    obtain ⟨b6, rfl⟩ := hmk
    replace h : base_Each_f1x_place_Read_1x_b1 v1 l7 n8 = some z1 := h
    unfold base_Each_f1x_place_Read_1x_b1 at h
    refine tSR <| ARun.qv (q_lss rfl rfl) rfl <| rN <| tS <| ATodo.cond_d rfl (fun hc => ?_) (fun hc => ?_)
    · refine have h := iteT hc h; tK <| tS <| ATodo.block <| tSR <| rM rfl rfl <| bndE h fun v9 e2 h => ARun.qv (t_index_sl rfl rfl rfl e2) rfl <| ARun.qv (t_load_aptr (g := AV.str) rfl rfl (.inl .p2) e2 rfl) rfl <| rA rfl rfl <| rA rfl rfl <| rN <| tS <| ATodo.cut (fun σ' => ∃ (b10 : Bk) (l11 : List Fix) (c12 : Bool), base_Each_f1x_place_Read_1x_j1 n8 l11 c12 = some z1 ∧ σ' = ⟨39, [(1, .func (.func 66) [.ptr b_2 0]), (6, .sl 1 b2 0 v1.1.length), (7, .bool v1.2), (8, I n8), (15, .sl 1 b2 0 v1.1.length), (16, I (v1.1.length : Int)), (17, I n8), (36, .bool c12)], [(b_2, .cells [.sl 5 b10 0 l11.length]), (b10, .arr 5 (l11.map Fix.av)), (b2, .arr 1 (v1.1.map AV.str))]⟩) ?_ ?_
      · refine tR <| rM rfl rfl <| ARun.qv (q_not rfl) rfl <| rM rfl rfl <| ARun.guard rfl rfl rfl (fun hc => ?_) (fun hc => ?_)
        · refine have h := iteT hc h; rM rfl rfl <| rY rfl rfl rfl <| rM rfl rfl <| rY rfl rfl rfl <| ARun.qv (t_len_sl rfl) rfl <| rY rfl rfl rfl <| ARun.qv (q_subw rfl rfl) rfl <| rY rfl rfl rfl <| ARun.qv (q_eql rfl rfl) rfl <| rT rfl rfl rfl <| rM rfl rfl <| ARun.guard_df rfl rfl rfl (fun hc => ?_) (fun hc => ?_)
          · exact have h := iteF hc h; rM rfl rfl <| rY rfl rfl rfl <| rM rfl rfl <| rY rfl rfl rfl <| bndE h fun v13 e3 h => t_callv1 rfl rfl rfl (place_Read_1x_c e3) (CoL.refl _) (.cons .p0 (.cons .p0 .nil)) (fun _ => rfl) rfl fun b14 => rY rfl rfl rfl <| ARun.qv (q_not rfl) rfl <| rE rfl rfl rfl <| rN <| ATodo.stop <| ImpX.lq [0, 0, 0] ⟨b14, v13.2, !v13.1, h, rfl⟩ rfl rfl
          · exact have h := iteT hc h; rG rfl rfl rfl rfl <| rG rfl rfl rfl rfl <| rG rfl rfl rfl rfl <| rT rfl rfl rfl <| rN <| ATodo.stop <| ImpX.lq [0, 0, 0] ⟨b6, l7, true, h, rfl⟩ rfl rfl
        · exact have h := iteFb hc h; rG rfl rfl rfl rfl <| rG rfl rfl rfl rfl <| rG rfl rfl rfl rfl <| rG rfl rfl rfl rfl <| rE rfl rfl rfl <| rM rfl rfl <| rY rfl rfl rfl <| rM rfl rfl <| rY rfl rfl rfl <| rM rfl rfl <| rY rfl rfl rfl <| bndE h fun v15 e4 h => t_callv1 rfl rfl rfl (place_Read_1x_c e4) (CoL.refl _) (.cons .p0 (.cons .p0 .nil)) (fun _ => rfl) rfl fun b16 => rY rfl rfl rfl <| ARun.qv (q_not rfl) rfl <| rE rfl rfl rfl <| rN <| ATodo.stop <| ImpX.lq [0, 0, 0] ⟨b16, v15.2, !v15.1, h, rfl⟩ rfl rfl
      · rintro σ' ⟨b10, l11, c12, h, rfl⟩
        unfold base_Each_f1x_place_Read_1x_j1 at h
        refine ATodo.cond rfl (fun hc => ?_) (fun hc => ?_)
        · refine have h := iteT hc h; tSR <| rM rfl rfl <| rA rfl rfl <| rA rfl rfl <| rN <| ATodo.ret <| have h := outL h hA1; ?_
          obtain rfl := Option.some.inj h
          exact ImpX.here ⟨_, .cons (.tmp _ _ rfl) (.cons (.tmp _ _ rfl) .nil), _, .cons .p0 (.cons .p0 .nil), ⟨b10, rfl, rfl⟩⟩
        · refine have h := iteFb hc h; tK <| ATodo.blk <| tR <| ARun.qv (q_addw rfl rfl) rfl <| rM rfl rfl <| rN <| ATodo.stop <| ?_
          obtain rfl := Option.some.inj h
          exact hJ1 _ _ rfl <| ImpX.lq [0, 0, 0] ⟨b10, rfl⟩ rfl rfl
    · refine have h := iteF hc h; ATodo.exit rfl <| have h := outL h hA1; tSR <| rA rfl rfl <| rA rfl rfl <| rN <| ATodo.ret <| ?_
      obtain rfl := Option.some.inj h
      exact ImpX.here ⟨_, .cons (.tmp _ _ rfl) (.cons (.tmp _ _ rfl) .nil), _, .cons .p0 (.cons .p0 .nil), ⟨b6, rfl, rfl⟩⟩

set_option maxHeartbeats 4000000 in
theorem place_Read_c {p0x0 : Str} {r : (List Fix) × Int × Int} (h : place_Read p0x0 = some r) : ACall Tryz.prog 13 [.str p0x0] [] (T1 (fun d_0 => [(d_0, .arr 5 (r.1.map Fix.av))]) (fun d_0 => .tup [.sl 5 d_0 0 r.1.length, I r.2.1, I r.2.2])) := by
  unfold place_Read at h
  refine ACall.lessH ?_
  refine ACall.bodyN Tryz.func13 rfl Tryz.ntmps13 Tryz.results13 rfl rfl ?_
  refine tSR <| rA rfl rfl <| rA rfl rfl <| rA rfl rfl <| rN <| tS <| tSR <| rM rfl rfl <| ARun.qv (q_len_str rfl) rfl <| ARun.qv (q_gtr rfl rfl) rfl <| rN <| ATodo.cond_d rfl (fun hc => ?_) (fun hc => ?_)
  · refine have h := iteT hc h; tSR <| rA rfl rfl <| rA rfl rfl <| rA rfl rfl <| rN <| ATodo.ret <| ?_
    obtain rfl := Option.some.inj h
    exact ImpX.arr (s := 2) 5 rfl fun b1 => ImpX.here ⟨_, .cons (.tmp _ _ rfl) (.cons (.tmp _ _ rfl) (.cons (.tmp _ _ rfl) .nil)), _, .cons .p0 .nil, ⟨b1, rfl, rfl⟩⟩
  · refine have h := iteF hc h; tK <| tSR <| n_alloc rfl rfl rfl rfl fun b2 => rN <| tSR <| rM rfl rfl <| ARun.qv (q_makeFunc rfl) rfl <| bndE h fun v3 e1 h => ARun.ghost <| ImpX.arrBox (j := 0) 5 (fun _ => .p0) rfl (fun _ => rfl) (fun _ => rfl) fun b4 => ImpX.here <| t_call1 rfl (base_Each_f1x_place_Read_1x_c e1) (CoL.refl _) (.cons .p1 (.cons .p0 .nil)) (fun _ => rfl) rfl fun b5 => rM rfl rfl <| rX rfl rfl rfl <| rX rfl rfl rfl <| rA rfl rfl <| rA rfl rfl <| rN <| tS <| tSR <| rM rfl rfl <| ARun.qv (q_not rfl) rfl <| rN <| ATodo.cond rfl (fun hc => ?_) (fun hc => ?_)
    · refine have h := iteT hc h; tSR <| rM rfl rfl <| rA rfl rfl <| rA rfl rfl <| rA rfl rfl <| rN <| ATodo.ret <| ?_
      obtain rfl := Option.some.inj h
      exact ImpX.arr (s := 2) 5 rfl fun b6 => ImpX.here ⟨_, .cons (.tmp _ _ rfl) (.cons (.tmp _ _ rfl) (.cons (.tmp _ _ rfl) .nil)), _, .cons .p0 .nil, ⟨b6, rfl, rfl⟩⟩
    · refine have h := iteFb hc h; tK <| tS <| tSR <| rL rfl rfl .p0 rfl rfl <| bndE h fun v7 e2 h => r_callpB rfl (place_CheckFixes_c e2) (.cons (CoB.arrT .p1) .nil) rfl rfl <| rA rfl rfl <| rN <| tSR <| rM rfl rfl <| ARun.qv (q_neq rfl rfl) rfl <| rN <| ATodo.cond_d rfl (fun hc => ?_) (fun hc => ?_)
      · refine have h := iteT hc h; tSR <| rM rfl rfl <| rA rfl rfl <| rA rfl rfl <| rA rfl rfl <| rN <| ATodo.ret <| ?_
        obtain rfl := Option.some.inj h
        exact ImpX.arr (s := 2) 5 rfl fun b8 => ImpX.here ⟨_, .cons (.tmp _ _ rfl) (.cons (.tmp _ _ rfl) (.cons (.tmp _ _ rfl) .nil)), _, .cons .p0 .nil, ⟨b8, rfl, rfl⟩⟩
      · refine have h := iteF hc h; tK <| tSR <| rL rfl rfl .p0 rfl rfl <| rA rfl rfl <| rA rfl rfl <| rA rfl rfl <| rN <| ATodo.ret <| ?_
        obtain rfl := Option.some.inj h
        exact ImpX.here ⟨_, .cons (.tmp _ _ rfl) (.cons (.tmp _ _ rfl) (.cons (.tmp _ _ rfl) .nil)), _, .cons .p1 .nil, ⟨b5, rfl, rfl⟩⟩

set_option maxHeartbeats 4000000 in
theorem slices_Index_string_string_c [GI : GTab] {p0x0 : List Str} {p1x0 : Str} {r : Int} (h : slices_Index_string_string p0x0 p1x0 = some r) : Pu Tryz.prog 132 [.list 1 (p0x0.map AV.str), .str p1x0] (I r) := by
  unfold slices_Index_string_string at h
  refine ACall.bodyN Tryz.func132 rfl Tryz.ntmps132 Tryz.results132 rfl rfl ?_
  refine tSR <| rA rfl rfl <| rN <| tS <| tSR <| rM rfl rfl <| ARun.qv (t_len rfl) rfl <| rM rfl rfl <| rN <| ATodo.block <| ATodo.loopI (fun x : Int => slices_Index_string_string_b1 p0x0 p1x0 x) (fun x σ' => σ' = ⟨19, [(0, .list 1 (p0x0.map AV.str)), (1, .str p1x0), (7, I (p0x0.length : Int)), (8, I x)], []⟩) h ?_ ?_
  · exact ImpX.lq [] rfl rfl rfl
  · intro n2 z1 σ' J1 hmk h hJ1 hA1
    obtain rfl := hmk
    replace h : slices_Index_string_string_b1 p0x0 p1x0 n2 = some z1 := h
    unfold slices_Index_string_string_b1 at h
    refine tSR <| ARun.qv (q_lss rfl rfl) rfl <| rN <| tS <| ATodo.cond_d rfl (fun hc => ?_) (fun hc => ?_)
    · refine have h := iteT hc h; tK <| tS <| ATodo.block <| tSR <| rM rfl rfl <| rA rfl rfl <| rN <| tSR <| rM rfl rfl <| rM rfl rfl <| rM rfl rfl <| bndE h fun v3 e1 h => ARun.qv (t_index rfl rfl rfl e1 rfl rfl) rfl <| ARun.qv (q_load_rptr rfl rfl rfl) rfl <| ARun.qv (q_seq rfl rfl) rfl <| rN <| ATodo.cond_d rfl (fun hc => ?_) (fun hc => ?_)
      · refine have h := iteT hc h; tSR <| rM rfl rfl <| rA rfl rfl <| rN <| ATodo.ret <| have h := outL h hA1; ?_
        obtain rfl := Option.some.inj h
        exact ImpX.here ⟨_, .cons (.tmp _ _ rfl) .nil, rfl⟩
      · refine have h := iteF hc h; tK <| ATodo.blk <| tR <| ARun.qv (q_addw rfl rfl) rfl <| rM rfl rfl <| rN <| ATodo.stop <| ?_
        obtain rfl := Option.some.inj h
        exact hJ1 _ _ rfl <| ImpX.lq [] rfl rfl rfl
    · refine have h := iteF hc h; ATodo.exit rfl <| have h := outL h hA1; tSR <| rA rfl rfl <| rN <| ATodo.ret <| ?_
      obtain rfl := Option.some.inj h
      exact ImpX.here ⟨_, .cons (.tmp _ _ rfl) .nil, rfl⟩

set_option maxHeartbeats 4000000 in
theorem slices_Contains_string_string_c [GI : GTab] {p0x0 : List Str} {p1x0 : Str} {r : Bool} (h : slices_Contains_string_string p0x0 p1x0 = some r) : Pu Tryz.prog 72 [.list 1 (p0x0.map AV.str), .str p1x0] (.bool r) := by
  unfold slices_Contains_string_string at h
  refine ACall.bodyN Tryz.func72 rfl Tryz.ntmps72 Tryz.results72 rfl rfl ?_
  refine tSR <| rA rfl rfl <| rN <| tSR <| rM rfl rfl <| rM rfl rfl <| bndE h fun v1 e1 h => r_callp rfl (slices_Index_string_string_c e1) (CoL.refl _) rfl <| ARun.qv (q_geq rfl rfl) rfl <| rA rfl rfl <| rN <| ATodo.ret <| ?_
  obtain rfl := Option.some.inj h
  exact ImpX.here ⟨_, .cons (.tmp _ _ rfl) .nil, rfl⟩

set_option maxHeartbeats 4000000 in
theorem Q_Number_c {p0x0 : Str} {p1x0 : Int} {r : Int × Bool} (h : Q_Number p0x0 p1x0 = some r) : Pu Tryz.prog 73 [.str p0x0, I p1x0] (.tup [I r.1, .bool r.2]) := by
  unfold Q_Number at h
  refine ACall.bodyN Tryz.func73 rfl Tryz.ntmps73 Tryz.results73 rfl rfl ?_
  refine tSR <| rA rfl rfl <| rA rfl rfl <| rN <| tSR <| rM rfl rfl <| r_callp rfl (strings_TrimPrefix_c rfl) (CoL.refl _) rfl <| rA rfl rfl <| rN <| tS <| tS <| ATodo.cut (fun σ' => ∃ (c1 : Bool), Q_Number_j1 p0x0 c1 = some r ∧ σ' = ⟨38, [(0, .str p0x0), (23, .bool c1)], []⟩) ?_ ?_
  · refine tR <| rM rfl rfl <| ARun.qv (q_seq rfl rfl) rfl <| rM rfl rfl <| ARun.guard_df rfl rfl rfl (fun hc => ?_) (fun hc => ?_)
    · refine have h := iteF hc h; rM rfl rfl <| rY rfl rfl rfl <| ARun.qv (q_len_str rfl) rfl <| rY rfl rfl rfl <| rM rfl rfl <| rY rfl rfl rfl <| ARun.qv (q_gtr rfl rfl) rfl <| rE rfl rfl rfl <| rM rfl rfl <| ARun.guard_df rfl rfl rfl (fun hc => ?_) (fun hc => ?_)
      · exact have h := iteF hc h; rM rfl rfl <| rY rfl rfl rfl <| bndE h fun v2 e1 h => r_callp rfl (Q_only_c e1) (CoL.refl _) rfl <| rY rfl rfl rfl <| ARun.qv (q_not rfl) rfl <| rE rfl rfl rfl <| rN <| ATodo.stop <| ImpX.lq [] ⟨!v2, h, rfl⟩ rfl rfl
      · exact have h := iteT hc h; rG rfl rfl rfl rfl <| rG rfl rfl rfl rfl <| rT rfl rfl rfl <| rN <| ATodo.stop <| ImpX.lq [] ⟨true, h, rfl⟩ rfl rfl
    · exact have h := iteT hc h; rG rfl rfl rfl rfl <| rG rfl rfl rfl rfl <| rG rfl rfl rfl rfl <| rT rfl rfl rfl <| rM rfl rfl <| rG rfl rfl rfl rfl <| rG rfl rfl rfl rfl <| rG rfl rfl rfl rfl <| rT rfl rfl rfl <| rN <| ATodo.stop <| ImpX.lq [] ⟨true, h, rfl⟩ rfl rfl
  · rintro σ' ⟨c1, h, rfl⟩
    unfold Q_Number_j1 at h
    refine ATodo.cond rfl (fun hc => ?_) (fun hc => ?_)
    · refine have h := iteT hc h; tSR <| rA rfl rfl <| rA rfl rfl <| rN <| ATodo.ret <| ?_
      obtain rfl := Option.some.inj h
      exact ImpX.here ⟨_, .cons (.tmp _ _ rfl) (.cons (.tmp _ _ rfl) .nil), rfl⟩
    · refine have h := iteFb hc h; tK <| tSR <| rM rfl rfl <| bndE h fun v3 e2 h => t_callE rfl (strconv_Atoi_c e2) (CoL.refl _) rfl fun e4 e3 => rM rfl rfl <| rX rfl rfl rfl <| rX rfl rfl rfl <| rA rfl rfl <| rA rfl rfl <| rN <| tS <| ATodo.cut (fun σ' => ∃ (c5 : Bool), Q_Number_j2 v3 c5 = some r ∧ σ' = ⟨38, [(4, I v3.1), (5, .bool c5)], []⟩) ?_ ?_
      · refine tR <| rM rfl rfl <| rM rfl rfl <| ARun.qv (q_eqE e3 rfl) rfl <| rM rfl rfl <| ARun.guard rfl rfl rfl (fun hc => ?_) (fun hc => ?_)
        · exact have h := iteT hc h; rM rfl rfl <| rY rfl rfl rfl <| bndE h fun v6 e4 h => r_callp rfl (strconv_Itoa_c e4) (CoL.refl _) rfl <| rY rfl rfl rfl <| rM rfl rfl <| rY rfl rfl rfl <| ARun.qv (q_seq rfl rfl) rfl <| rT rfl rfl rfl <| rA rfl rfl <| rA rfl rfl <| rN <| ATodo.stop <| ImpX.lq [] ⟨decide (v6 = p0x0), h, rfl⟩ rfl rfl
        · exact have h := iteFb hc h; rG rfl rfl rfl rfl <| rG rfl rfl rfl rfl <| rG rfl rfl rfl rfl <| rE rfl rfl rfl <| rA rfl rfl <| rA rfl rfl <| rN <| ATodo.stop <| ImpX.lq [] ⟨false, h, rfl⟩ rfl rfl
      · rintro σ' ⟨c5, h, rfl⟩
        unfold Q_Number_j2 at h
        refine ATodo.ret <| ?_
        obtain rfl := Option.some.inj h
        exact ImpX.here ⟨_, .cons (.tmp _ _ rfl) (.cons (.tmp _ _ rfl) .nil), rfl⟩

set_option maxHeartbeats 4000000 in
theorem Q_FixesRead_1x_c {b_1 : Bk} {b_1x0 : Bk} {p0x0 : Str} {p1x0 : List Fix} {r : Bool × (List Fix)} (h : Q_FixesRead_1x p0x0 p1x0 = some r) : ACall Tryz.prog 70 [.str p0x0, .ptr b_1 0] [(b_1, .cells [.sl 5 b_1x0 0 p1x0.length]), (b_1x0, .arr 5 (p1x0.map Fix.av))] (T1 (fun c_1x0 => [(b_1, .cells [.sl 5 c_1x0 0 r.2.length]), (c_1x0, .arr 5 (r.2.map Fix.av))]) (fun c_1x0 => .bool r.1)) := by
  unfold Q_FixesRead_1x at h
  refine ACall.lessH ?_
  refine ACall.bodyN Tryz.func70 rfl Tryz.ntmps70 Tryz.results70 rfl rfl ?_
  refine tSR <| rA rfl rfl <| rN <| tSR <| rM rfl rfl <| bndE h fun v1 e1 h => t_call1 rfl (strings_Split_c e1) (CoL.refl _) .nil (fun _ => rfl) rfl fun b2 => rA rfl rfl <| rN <| tS <| tS <| ATodo.cut (fun σ' => ∃ (c3 : Bool), Q_FixesRead_1x_j1 p1x0 v1 c3 = some r ∧ σ' = ⟨49, [(1, .ptr b_1 0), (4, .sl 1 b2 0 v1.length), (16, .bool c3)], [(b_1, .cells [.sl 5 b_1x0 0 p1x0.length]), (b_1x0, .arr 5 (p1x0.map Fix.av)), (b2, .arr 1 (v1.map AV.str))]⟩) ?_ ?_
  · refine tR <| rM rfl rfl <| ARun.qv (t_len_sl rfl) rfl <| ARun.qv (q_neq rfl rfl) rfl <| rM rfl rfl <| ARun.guard_df rfl rfl rfl (fun hc => ?_) (fun hc => ?_)
    · exact have h := iteF hc h; rM rfl rfl <| rY rfl rfl rfl <| bndE h fun v4 e2 h => r_callpB rfl (slices_Contains_string_string_c e2) (.cons (CoB.arrT .p0) (.cons (.co (.refl _)) .nil)) rfl rfl <| rE rfl rfl rfl <| rN <| ATodo.stop <| ImpX.lq [1, 1, 0] ⟨v4, h, rfl⟩ rfl rfl
    · exact have h := iteT hc h; rG rfl rfl rfl rfl <| rT rfl rfl rfl <| rN <| ATodo.stop <| ImpX.lq [1, 1, 0] ⟨true, h, rfl⟩ rfl rfl
  · rintro σ' ⟨c3, h, rfl⟩
    unfold Q_FixesRead_1x_j1 at h
    refine ATodo.cond rfl (fun hc => ?_) (fun hc => ?_)
    · refine have h := iteT hc h; tSR <| rA rfl rfl <| rN <| ATodo.ret <| ?_
      obtain rfl := Option.some.inj h
      exact ImpX.here ⟨_, .cons (.tmp _ _ rfl) .nil, _, .cons .p0 (.cons .p0 .nil), ⟨b_1x0, rfl, rfl⟩⟩
    · refine have h := iteFb hc h; tK <| tSR <| n_allocA (g := I) (Xs := ([(0 : Int), (0 : Int), (0 : Int), (0 : Int)] : List Int)) rfl rfl rfl rfl rfl rfl fun b5 => rN <| tS <| tSR <| rM rfl rfl <| rN <| ATodo.block <| ATodo.loopI (fun x : (List Int) × Int => Q_FixesRead_1x_b1 p1x0 v1 x.1 x.2) (fun x σ' => σ' = ⟨49, [(1, .ptr b_1 0), (4, .sl 1 b2 0 v1.length), (5, .ptr b5 0), (17, I x.2)], [(b_1, .cells [.sl 5 b_1x0 0 p1x0.length]), (b_1x0, .arr 5 (p1x0.map Fix.av)), (b2, .arr 1 (v1.map AV.str)), (b5, .arr 1 (x.1.map I))]⟩) h ?_ ?_
      · exact ImpX.lq [1, 1, 1, 0] rfl rfl rfl
      · intro x z1 σ' J1 hmk h hJ1 hA1
        obtain ⟨l8, n9⟩ := x
        obtain rfl := hmk
        replace h : Q_FixesRead_1x_b1 p1x0 v1 l8 n9 = some z1 := h
        unfold Q_FixesRead_1x_b1 at h
        refine tSR <| ARun.qv (q_lss rfl rfl) rfl <| rN <| tS <| ATodo.cond_d rfl (fun hc => ?_) (fun hc => ?_)
        · refine have h := iteT hc h; tK <| tS <| ATodo.block <| tSR <| rM rfl rfl <| rA rfl rfl <| rN <| tSR <| rA rfl rfl <| rN <| tSR <| rM rfl rfl <| rM rfl rfl <| rM rfl rfl <| ARun.qv (q_addw rfl rfl) rfl <| bndE h fun v10 e3 h => ARun.qv (t_index_sl rfl rfl rfl e3) rfl <| ARun.qv (t_load_aptr (g := AV.str) rfl rfl (.inl .p2) e3 rfl) rfl <| bndE h fun v11 e4 h => r_callp rfl (Q_Number_c e4) (CoL.refl _) rfl <| rM rfl rfl <| rX rfl rfl rfl <| rX rfl rfl rfl <| bndE h fun v12 e5 h => ARun.qv (t_index_ar rfl rfl rfl e5) rfl <| t_store_aptr1 (g := I) (el' := v11.1) rfl rfl rfl rfl (idxA_some e5).2 rfl .p3 rfl <| rA rfl rfl <| rN <| tSR <| rM rfl rfl <| ARun.qv (q_not rfl) rfl <| rN <| ATodo.cond rfl (fun hc => ?_) (fun hc => ?_)
          · refine have h := iteT hc h; tSR <| rA rfl rfl <| rN <| ATodo.ret <| have h := outL h hA1; ?_
            obtain rfl := Option.some.inj h
            exact ImpX.here ⟨_, .cons (.tmp _ _ rfl) .nil, _, .cons .p0 (.cons .p0 .nil), ⟨b_1x0, rfl, rfl⟩⟩
          · refine have h := iteFb hc h; tK <| ATodo.blk <| tR <| ARun.qv (q_addw rfl rfl) rfl <| rM rfl rfl <| rN <| ATodo.stop <| ?_
            obtain rfl := Option.some.inj h
            exact hJ1 _ _ rfl <| ImpX.lq [0, 0, 0, 0] rfl rfl rfl
        · refine have h := iteF hc h; ATodo.exit rfl <| have h := outL h hA1; ?_
          unfold Q_FixesRead_1x_k2 at h
          refine tS <| ATodo.regionM (id := 13) (A := [0, 0, 2, 6, 0, 16, 0, 64, 0, 256, 0, 1024, 4094, 8190, 16383, 32767]) 14 mixed rfl (by kernel_rfl) (by kernel_rfl) <| AM.qv (q_load_ptr rfl rfl .p0 rfl) rfl <| AM.qv (q_move rfl) rfl <| bndE h fun v13 e6 h => AM.qv (t_index_sl rfl rfl rfl e6) rfl <| AM.qv (t_load_aptr (g := AV.str) rfl rfl (.inl .p2) e6 rfl) rfl <| bndE h fun v14 e7 h => AM.qv (t_index_ar rfl rfl rfl e7) rfl <| AM.qv (t_load_aptr (g := I) rfl rfl (.inl .p3) (idxA_some e7).2 rfl) rfl <| bndE h fun v15 e8 h => AM.qv (t_index_ar rfl rfl rfl e8) rfl <| AM.qv (t_load_aptr (g := I) rfl rfl (.inl .p3) (idxA_some e8).2 rfl) rfl <| bndE h fun v16 e9 h => AM.qv (t_index_ar rfl rfl rfl e9) rfl <| AM.qv (t_load_aptr (g := I) rfl rfl (.inl .p3) (idxA_some e9).2 rfl) rfl <| bndE h fun v17 e10 h => AM.qv (t_index_ar rfl rfl rfl e10) rfl <| AM.qv (t_load_aptr (g := I) rfl rfl (.inl .p3) (idxA_some e10).2 rfl) rfl <| AM.qv (n_build rfl rfl rfl rfl rfl) rfl <| AM.buildSliceL (xs := ([(⟨v13, v14, v15, v16, v17⟩ : Fix)]).map Fix.av) rfl rfl rfl rfl rfl rfl <| AM.nil <| bndE h fun l18 e11 h => t_append (g := Fix.av) rfl rfl rfl rfl rfl rfl rfl rfl (.list _) e11 (fun _ => .p1) rfl fun b19 => n_store_ptr rfl rfl rfl rfl .p0 rfl rfl <| rN <| tSR <| rA rfl rfl <| rN <| ATodo.ret <| ?_
          obtain rfl := Option.some.inj h
          exact ImpX.here ⟨_, .cons (.tmp _ _ rfl) .nil, _, .cons .p0 (.cons .p0 .nil), ⟨b19, rfl, rfl⟩⟩

set_option maxHeartbeats 4000000 in
theorem Q_Lines_f1x_Q_FixesRead_1x_c {b_2 : Bk} {b_2x0 : Bk} {p0x0 : Str} {p2x0 : List Fix} {r : Int × Bool × (List Fix)} (h : Q_Lines_f1x_Q_FixesRead_1x p0x0 p2x0 = some r) : ACall Tryz.prog 69 [.str p0x0, .func (.func 70) [.ptr b_2 0]] [(b_2, .cells [.sl 5 b_2x0 0 p2x0.length]), (b_2x0, .arr 5 (p2x0.map Fix.av))] (T1 (fun c_2x0 => [(b_2, .cells [.sl 5 c_2x0 0 r.2.2.length]), (c_2x0, .arr 5 (r.2.2.map Fix.av))]) (fun c_2x0 => .tup [I r.1, .bool r.2.1])) := by
  unfold Q_Lines_f1x_Q_FixesRead_1x at h
  refine ACall.lessH ?_
  refine ACall.bodyN Tryz.func69 rfl Tryz.ntmps69 Tryz.results69 rfl rfl ?_
  refine tSR <| rA rfl rfl <| rA rfl rfl <| rN <| tS <| tSR <| rA rfl rfl <| rN <| ATodo.block <| ATodo.loopI (fun x : (List Fix) × Str × Int => Q_Lines_f1x_Q_FixesRead_1x_b1 x.1 x.2.1 x.2.2) (fun x σ' => ∃ (b5 : Bk), σ' = ⟨30, [(0, .str x.2.1), (1, .func (.func 70) [.ptr b_2 0]), (6, I x.2.2)], [(b_2, .cells [.sl 5 b5 0 x.1.length]), (b5, .arr 5 (x.1.map Fix.av))]⟩) h ?_ ?_
  · exact ImpX.lq [0, 0] ⟨b_2x0, rfl⟩ rfl rfl
  · intro x z1 σ' J1 hmk h hJ1 hA1
    obtain ⟨l6, q7, n8⟩ := x
    obtain ⟨b5, rfl⟩ := hmk
    replace h : Q_Lines_f1x_Q_FixesRead_1x_b1 l6 q7 n8 = some z1 := h
    unfold Q_Lines_f1x_Q_FixesRead_1x_b1 at h
    refine tS <| tSR <| rM rfl rfl <| ARun.qv (q_sne rfl rfl) rfl <| rN <| ATodo.cond_d rfl (fun hc => ?_) (fun hc => ?_)
    · refine have h := iteT hc h; tK <| tS <| ATodo.block <| tSR <| rM rfl rfl <| bndE h fun v9 e1 h => r_callp rfl (strings_Cut_c e1) (CoL.refl _) rfl <| rM rfl rfl <| rX rfl rfl rfl <| rX rfl rfl rfl <| rX rfl rfl rfl <| rA rfl rfl <| rA rfl rfl <| rA rfl rfl <| rN <| tS <| tS <| ATodo.cut (fun σ' => ∃ (b10 : Bk) (l11 : List Fix) (c12 : Bool), Q_Lines_f1x_Q_FixesRead_1x_j1 n8 v9 l11 c12 = some z1 ∧ σ' = ⟨30, [(1, .func (.func 70) [.ptr b_2 0]), (6, I n8), (8, .str v9.2.1), (27, .bool c12)], [(b_2, .cells [.sl 5 b10 0 l11.length]), (b10, .arr 5 (l11.map Fix.av))]⟩) ?_ ?_
      · refine tR <| rM rfl rfl <| ARun.qv (q_not rfl) rfl <| rM rfl rfl <| ARun.guard rfl rfl rfl (fun hc => ?_) (fun hc => ?_)
        · exact have h := iteFb hc h; rM rfl rfl <| rY rfl rfl rfl <| rM rfl rfl <| rY rfl rfl rfl <| bndE h fun v13 e2 h => t_callv1 rfl rfl rfl (Q_FixesRead_1x_c e2) (CoL.refl _) (.cons .p0 (.cons .p0 .nil)) (fun _ => rfl) rfl fun b14 => rY rfl rfl rfl <| ARun.qv (q_not rfl) rfl <| rE rfl rfl rfl <| rN <| ATodo.stop <| ImpX.lq [0, 0] ⟨b14, v13.2, !v13.1, h, rfl⟩ rfl rfl
        · exact have h := iteT hc h; rG rfl rfl rfl rfl <| rG rfl rfl rfl rfl <| rG rfl rfl rfl rfl <| rT rfl rfl rfl <| rN <| ATodo.stop <| ImpX.lq [0, 0] ⟨b5, l6, true, h, rfl⟩ rfl rfl
      · rintro σ' ⟨b10, l11, c12, h, rfl⟩
        unfold Q_Lines_f1x_Q_FixesRead_1x_j1 at h
        refine ATodo.cond rfl (fun hc => ?_) (fun hc => ?_)
        · refine have h := iteT hc h; tSR <| rM rfl rfl <| rA rfl rfl <| rA rfl rfl <| rN <| ATodo.ret <| have h := outL h hA1; ?_
          obtain rfl := Option.some.inj h
          exact ImpX.here ⟨_, .cons (.tmp _ _ rfl) (.cons (.tmp _ _ rfl) .nil), _, .cons .p0 (.cons .p0 .nil), ⟨b10, rfl, rfl⟩⟩
        · refine have h := iteFb hc h; tK <| tR <| rM rfl rfl <| rA rfl rfl <| rN <| ATodo.blk <| tR <| rM rfl rfl <| ARun.qv (q_addw rfl rfl) rfl <| rA rfl rfl <| rN <| ATodo.stop <| ?_
          obtain rfl := Option.some.inj h
          exact hJ1 _ _ rfl <| ImpX.lq [0, 0] ⟨b10, rfl⟩ rfl rfl
    · refine have h := iteF hc h; ATodo.exit rfl <| have h := outL h hA1; tSR <| rA rfl rfl <| rA rfl rfl <| rN <| ATodo.ret <| ?_
      obtain rfl := Option.some.inj h
      exact ImpX.here ⟨_, .cons (.tmp _ _ rfl) (.cons (.tmp _ _ rfl) .nil), _, .cons .p0 (.cons .p0 .nil), ⟨b5, rfl, rfl⟩⟩

set_option maxHeartbeats 4000000 in
theorem Q_FixesRead_c {p0x0 : Str} {r : (List Fix) × Int × Int} (h : Q_FixesRead p0x0 = some r) : ACall Tryz.prog 14 [.str p0x0] [] (T1 (fun d_0 => [(d_0, .arr 5 (r.1.map Fix.av))]) (fun d_0 => .tup [.sl 5 d_0 0 r.1.length, I r.2.1, I r.2.2])) := by
  unfold Q_FixesRead at h
  refine ACall.lessH ?_
  refine ACall.bodyN Tryz.func14 rfl Tryz.ntmps14 Tryz.results14 rfl rfl ?_
  refine tSR <| rA rfl rfl <| rA rfl rfl <| rA rfl rfl <| rN <| tS <| tSR <| rM rfl rfl <| ARun.qv (q_len_str rfl) rfl <| ARun.qv (q_gtr rfl rfl) rfl <| rN <| ATodo.cond_d rfl (fun hc => ?_) (fun hc => ?_)
  · refine have h := iteT hc h; tSR <| rA rfl rfl <| rA rfl rfl <| rA rfl rfl <| rN <| ATodo.ret <| ?_
    obtain rfl := Option.some.inj h
    exact ImpX.arr (s := 2) 5 rfl fun b1 => ImpX.here ⟨_, .cons (.tmp _ _ rfl) (.cons (.tmp _ _ rfl) (.cons (.tmp _ _ rfl) .nil)), _, .cons .p0 .nil, ⟨b1, rfl, rfl⟩⟩
  · refine have h := iteF hc h; tK <| tSR <| n_alloc rfl rfl rfl rfl fun b2 => rN <| tSR <| rM rfl rfl <| ARun.qv (q_makeFunc rfl) rfl <| bndE h fun v3 e1 h => ARun.ghost <| ImpX.arrBox (j := 0) 5 (fun _ => .p0) rfl (fun _ => rfl) (fun _ => rfl) fun b4 => ImpX.here <| t_call1 rfl (Q_Lines_f1x_Q_FixesRead_1x_c e1) (CoL.refl _) (.cons .p1 (.cons .p0 .nil)) (fun _ => rfl) rfl fun b5 => rM rfl rfl <| rX rfl rfl rfl <| rX rfl rfl rfl <| rA rfl rfl <| rA rfl rfl <| rN <| tS <| tSR <| rM rfl rfl <| ARun.qv (q_not rfl) rfl <| rN <| ATodo.cond rfl (fun hc => ?_) (fun hc => ?_)
    · refine have h := iteT hc h; tSR <| rM rfl rfl <| rA rfl rfl <| rA rfl rfl <| rA rfl rfl <| rN <| ATodo.ret <| ?_
      obtain rfl := Option.some.inj h
      exact ImpX.arr (s := 2) 5 rfl fun b6 => ImpX.here ⟨_, .cons (.tmp _ _ rfl) (.cons (.tmp _ _ rfl) (.cons (.tmp _ _ rfl) .nil)), _, .cons .p0 .nil, ⟨b6, rfl, rfl⟩⟩
    · refine have h := iteFb hc h; tK <| tS <| tSR <| rL rfl rfl .p0 rfl rfl <| bndE h fun v7 e2 h => r_callpB rfl (Q_FixesFault_c e2) (.cons (CoB.arrT .p1) .nil) rfl rfl <| rA rfl rfl <| rN <| tSR <| rM rfl rfl <| ARun.qv (q_neq rfl rfl) rfl <| rN <| ATodo.cond_d rfl (fun hc => ?_) (fun hc => ?_)
      · refine have h := iteT hc h; tSR <| rM rfl rfl <| rA rfl rfl <| rA rfl rfl <| rA rfl rfl <| rN <| ATodo.ret <| ?_
        obtain rfl := Option.some.inj h
        exact ImpX.arr (s := 2) 5 rfl fun b8 => ImpX.here ⟨_, .cons (.tmp _ _ rfl) (.cons (.tmp _ _ rfl) (.cons (.tmp _ _ rfl) .nil)), _, .cons .p0 .nil, ⟨b8, rfl, rfl⟩⟩
      · refine have h := iteF hc h; tK <| tSR <| rL rfl rfl .p0 rfl rfl <| rA rfl rfl <| rA rfl rfl <| rA rfl rfl <| rN <| ATodo.ret <| ?_
        obtain rfl := Option.some.inj h
        exact ImpX.here ⟨_, .cons (.tmp _ _ rfl) (.cons (.tmp _ _ rfl) (.cons (.tmp _ _ rfl) .nil)), _, .cons .p1 .nil, ⟨b5, rfl, rfl⟩⟩

end Go.Proofs.YtlhoigimdehaeaaGreatDoor

