/- The code computes the plain functions: proofs written by shal.py. -/
import Derived.Test.YtohnopfmfehhkaaGreatDoorQueP
import Derived.Test.YtohnopfmfehhkaaGreatDoorLib
set_option maxRecDepth 100000
set_option linter.unusedVariables false
set_option linter.unusedSimpArgs false
namespace Go.Proofs.YtohnopfmfehhkaaGreatDoor
open Go Go.Eng Go.Proofs Go.Beacon
attribute [local irreducible] ARun ATodo AQ QV ACall ImpX AWp AM
instance eqg76 : EqGd Tryz.prog 76 := ⟨by kernel_rfl⟩
instance eqt76 : EqTy Tryz.prog 76 2 ValueS.av := ⟨fun x y w S v u hv hu => by
  obtain ⟨vs, rfl, hl, ha⟩ := At.agg_inv hv
  obtain ⟨us, rfl, hl', ha'⟩ := At.agg_inv hu
  obtain ⟨v0, p0, q0⟩ := AtA.get hl ha (off := 0) rfl
  obtain ⟨u0, p0', q0'⟩ := AtA.get hl' ha' (off := 0) rfl
  obtain ⟨v1, p1, q1⟩ := AtA.get hl ha (off := 1) rfl
  obtain ⟨u1, p1', q1'⟩ := AtA.get hl' ha' (off := 1) rfl
  obtain ⟨v2, p2, q2⟩ := AtA.get hl ha (off := 2) rfl
  obtain ⟨u2, p2', q2'⟩ := AtA.get hl' ha' (off := 2) rfl
  obtain ⟨v3, p3, q3⟩ := AtA.get hl ha (off := 3) rfl
  obtain ⟨u3, p3', q3'⟩ := AtA.get hl' ha' (off := 3) rfl
  refine EqR.cast (EqR.struct Tryz.underlying76 (by kernel_rfl) (.cons (by decide) (part_one rfl p0) (part_one rfl p0') (EqR.up (EqTy.h (g := I) x.Kind y.Kind w S _ _ q0 q0') 0)  (.cons (by decide) (part_one rfl p1) (part_one rfl p1') (EqR.up (EqTy.h (g := AV.bool) x.Flag y.Flag w S _ _ q1 q1') 0)  (.cons (by decide) (part_one rfl p2) (part_one rfl p2') (EqR.up (EqTy.h (g := I) x.Number y.Number w S _ _ q2 q2') 0)  (.cons (by decide) (part_one rfl p3) (part_one rfl p3') (EqR.up (EqTy.h (g := AV.str) x.Words y.Words w S _ _ q3 q3') 0) .nil))))) ?_
  obtain ⟨_, _, _, _⟩ := x
  obtain ⟨_, _, _, _⟩ := y
  rw [Bool.eq_iff_iff]; simp [and_assoc]⟩
instance eqg78 : EqGd Tryz.prog 78 := ⟨by kernel_rfl⟩
instance eqt78 : EqTy Tryz.prog 78 2 Version.av := ⟨fun x y w S v u hv hu => by
  obtain ⟨vs, rfl, hl, ha⟩ := At.agg_inv hv
  obtain ⟨us, rfl, hl', ha'⟩ := At.agg_inv hu
  obtain ⟨v0, p0, q0⟩ := AtA.get hl ha (off := 0) rfl
  obtain ⟨u0, p0', q0'⟩ := AtA.get hl' ha' (off := 0) rfl
  obtain ⟨v1, p1, q1⟩ := AtA.get hl ha (off := 1) rfl
  obtain ⟨u1, p1', q1'⟩ := AtA.get hl' ha' (off := 1) rfl
  obtain ⟨v2, p2, q2⟩ := AtA.get hl ha (off := 2) rfl
  obtain ⟨u2, p2', q2'⟩ := AtA.get hl' ha' (off := 2) rfl
  refine EqR.cast (EqR.struct Tryz.underlying78 (by kernel_rfl) (.cons (by decide) (part_one rfl p0) (part_one rfl p0') (EqR.up (EqTy.h (g := I) x.Major y.Major w S _ _ q0 q0') 0)  (.cons (by decide) (part_one rfl p1) (part_one rfl p1') (EqR.up (EqTy.h (g := I) x.Minor y.Minor w S _ _ q1 q1') 0)  (.cons (by decide) (part_one rfl p2) (part_one rfl p2') (EqR.up (EqTy.h (g := I) x.Patch y.Patch w S _ _ q2 q2') 0) .nil)))) ?_
  obtain ⟨_, _, _⟩ := x
  obtain ⟨_, _, _⟩ := y
  rw [Bool.eq_iff_iff]; simp [and_assoc]⟩
set_option maxHeartbeats 4000000 in
theorem Below_c [GI : GTab] {p0x0 : Int} {p1x0 : Int} {r : Int} (h : Below p0x0 p1x0 = some r) : Pu Tryz.prog 57 [I p0x0, I p1x0] (I r) := by
  unfold Below at h
  refine ACall.bodyN Tryz.func57 rfl Tryz.ntmps57 Tryz.results57 rfl rfl ?_
  refine tSR <| rA rfl rfl <| rN <| tS <| tSR <| rM rfl rfl <| ARun.qv (q_lss rfl rfl) rfl <| rN <| ATodo.cond_d rfl (fun hc => ?_) (fun hc => ?_)
  · refine have h := iteT hc h; tSR <| rA rfl rfl <| rN <| ATodo.ret <| ?_
    obtain rfl := Option.some.inj h
    exact ImpX.here ⟨_, .cons (.tmp _ _ rfl) .nil, rfl⟩
  · refine have h := iteF hc h; tK <| tSR <| rM rfl rfl <| rM rfl rfl <| bndE h fun n1 e1 h => ARun.qv (t_remS rfl rfl e1) rfl <| rA rfl rfl <| rN <| tS <| tSR <| rM rfl rfl <| ARun.qv (q_lss rfl rfl) rfl <| rN <| ATodo.cut (fun σ' => ∃ (n2 : Int), Below_j1 n2 = some r ∧ σ' = ⟨16, [(0, I n2)], []⟩) ?_ ?_
    · refine ATodo.cond_d rfl (fun hc => ?_) (fun hc => ?_)
      · exact have h := iteT hc h; tR <| rM rfl rfl <| rM rfl rfl <| ARun.qv (q_addw rfl rfl) rfl <| rA rfl rfl <| rN <| ATodo.stop <| ImpX.lq [] ⟨w64 (n1 + p1x0), h, rfl⟩ rfl rfl
      · exact have h := iteF hc h; tK <| ATodo.stop <| ImpX.lq [] ⟨n1, h, rfl⟩ rfl rfl
    · rintro σ' ⟨n2, h, rfl⟩
      unfold Below_j1 at h
      refine tSR <| rM rfl rfl <| rA rfl rfl <| rN <| ATodo.ret <| ?_
      obtain rfl := Option.some.inj h
      exact ImpX.here ⟨_, .cons (.tmp _ _ rfl) .nil, rfl⟩

set_option maxHeartbeats 4000000 in
theorem Stream_Next_c [GI : GTab] {b_0 : Bk} {p0x0 : Fleetmake_Stream} {p1x0 : Int} {r : Int × Fleetmake_Stream} (h : Stream_Next p0x0 p1x0 = some r) : ACall Tryz.prog 9 [.ptr b_0 0, I p1x0] [(b_0, .cells [.list 1 (p0x0.L.map I), I p0x0.at_])] (T0 ([(b_0, .cells [.list 1 (r.2.L.map I), I r.2.at_])]) (I r.1)) := by
  unfold Stream_Next at h
  refine ACall.lessH ?_
  refine ACall.bodyN Tryz.func9 rfl Tryz.ntmps9 Tryz.results9 rfl rfl ?_
  refine tSR <| rA rfl rfl <| rN <| tSR <| rM rfl rfl <| ARun.qv (q_nilCheck_ptr rfl) rfl <| rF rfl rfl rfl <| rL rfl rfl .p0 rfl rfl <| ARun.qv (q_addw rfl rfl) rfl <| ARun.qv (q_nilCheck_ptr rfl) rfl <| rF rfl rfl rfl <| n_store_ptr rfl rfl rfl rfl .p0 rfl rfl <| rN <| tS <| tSR <| rM rfl rfl <| ARun.qv (q_nilCheck_ptr rfl) rfl <| rF rfl rfl rfl <| rL rfl rfl .p0 rfl rfl <| ARun.qv (t_len rfl) rfl <| ARun.qv (q_eql rfl rfl) rfl <| rN <| ATodo.cond_d rfl (fun hc => ?_) (fun hc => ?_)
  · refine have h := iteT hc h; tSR <| rM rfl rfl <| ARun.qv (q_nilCheck_ptr rfl) rfl <| rF rfl rfl rfl <| rL rfl rfl .p0 rfl rfl <| ARun.qv (q_mulw rfl rfl) rfl <| rM rfl rfl <| bndE h fun v1 e1 h => r_callp rfl (Below_c e1) (CoL.refl _) rfl <| rA rfl rfl <| rN <| ATodo.ret <| ?_
    obtain rfl := Option.some.inj h
    exact ImpX.here ⟨_, .cons (.tmp _ _ rfl) .nil, _, .cons .p0 .nil, ⟨rfl, rfl⟩⟩
  · refine have h := iteF hc h; tK <| tS <| ATodo.regionM (id := 4) (A := [0, 1, 3, 7, 15, 0, 32, 96, 224, 480, 1023, 2047]) 12 mixed rfl (by kernel_rfl) (by kernel_rfl) <| AM.qv (q_move rfl) rfl <| AM.qv (q_nilCheck_ptr rfl) rfl <| AM.qv (n_field_ptr rfl rfl) rfl <| AM.qv (q_load_ptr rfl rfl .p0 rfl) rfl <| AM.qv (q_subw rfl rfl) rfl <| AM.qv (q_move rfl) rfl <| AM.qv (q_nilCheck_ptr rfl) rfl <| AM.qv (n_field_ptr rfl rfl) rfl <| AM.qv (q_load_ptr rfl rfl .p0 rfl) rfl <| AM.qv (t_len rfl) rfl <| bndE h fun n2 e2 h => AM.qv (t_remS rfl rfl e2) rfl <| AM.qv (q_assign rfl) rfl <| AM.nil <| rN <| tS <| ATodo.regionM (id := 5) (A := [0, 1, 3, 7, 15, 0, 32, 96, 224, 480, 1023, 2047]) 12 mixed rfl (by kernel_rfl) (by kernel_rfl) <| AM.qv (q_move rfl) rfl <| AM.qv (q_nilCheck_ptr rfl) rfl <| AM.qv (n_field_ptr rfl rfl) rfl <| AM.qv (q_load_ptr rfl rfl .p0 rfl) rfl <| AM.qv (q_subw rfl rfl) rfl <| AM.qv (q_move rfl) rfl <| AM.qv (q_nilCheck_ptr rfl) rfl <| AM.qv (n_field_ptr rfl rfl) rfl <| AM.qv (q_load_ptr rfl rfl .p0 rfl) rfl <| AM.qv (t_len rfl) rfl <| bndE h fun n3 e3 h => AM.qv (t_quoS rfl rfl e3) rfl <| AM.qv (q_assign rfl) rfl <| AM.nil <| rN <| tSR <| rM rfl rfl <| ARun.qv (q_nilCheck_ptr rfl) rfl <| rF rfl rfl rfl <| rL rfl rfl .p0 rfl rfl <| rM rfl rfl <| bndE h fun v4 e4 h => ARun.qv (t_index rfl rfl rfl e4 rfl rfl) rfl <| ARun.qv (q_load_rptr rfl rfl rfl) rfl <| bndE h fun v5 e5 h => r_callp rfl (Below_c e5) (CoL.refl _) rfl <| rM rfl rfl <| rM rfl rfl <| ARun.qv (q_addw rfl rfl) rfl <| ARun.qv (q_mulw rfl rfl) rfl <| ARun.qv (q_addw rfl rfl) rfl <| rM rfl rfl <| bndE h fun v6 e6 h => r_callp rfl (Below_c e6) (CoL.refl _) rfl <| rA rfl rfl <| rN <| ATodo.ret <| ?_
    obtain rfl := Option.some.inj h
    exact ImpX.here ⟨_, .cons (.tmp _ _ rfl) .nil, _, .cons .p0 .nil, ⟨rfl, rfl⟩⟩

set_option maxHeartbeats 4000000 in
theorem Stream_Pick_c [GI : GTab] {b_0 : Bk} {p0x0 : Fleetmake_Stream} {p1x0 : List Int} {r : Int × Fleetmake_Stream} (h : Stream_Pick p0x0 p1x0 = some r) : ACall Tryz.prog 83 [.ptr b_0 0, .list 1 (p1x0.map I)] [(b_0, .cells [.list 1 (p0x0.L.map I), I p0x0.at_])] (T0 ([(b_0, .cells [.list 1 (r.2.L.map I), I r.2.at_])]) (I r.1)) := by
  unfold Stream_Pick at h
  refine ACall.lessH ?_
  refine ACall.bodyN Tryz.func83 rfl Tryz.ntmps83 Tryz.results83 rfl rfl ?_
  refine tSR <| rA rfl rfl <| rN <| tSR <| rM rfl rfl <| rM rfl rfl <| rM rfl rfl <| ARun.qv (t_len rfl) rfl <| bndE h fun v1 e1 h => t_call0 rfl (Stream_Next_c e1) (CoL.refl _) (.cons .p0 .nil) rfl rfl <| bndE h fun v2 e2 h => ARun.qv (t_index rfl rfl rfl e2 rfl rfl) rfl <| ARun.qv (q_load_rptr rfl rfl rfl) rfl <| rA rfl rfl <| rN <| ATodo.ret <| ?_
  obtain rfl := Option.some.inj h
  exact ImpX.here ⟨_, .cons (.tmp _ _ rfl) .nil, _, .cons .p0 .nil, ⟨rfl, rfl⟩⟩

set_option maxHeartbeats 4000000 in
theorem Stream_Flip_c [GI : GTab] {b_0 : Bk} {p0x0 : Fleetmake_Stream} {p1x0 : Int} {r : Bool × Fleetmake_Stream} (h : Stream_Flip p0x0 p1x0 = some r) : ACall Tryz.prog 54 [.ptr b_0 0, I p1x0] [(b_0, .cells [.list 1 (p0x0.L.map I), I p0x0.at_])] (T0 ([(b_0, .cells [.list 1 (r.2.L.map I), I r.2.at_])]) (.bool r.1)) := by
  unfold Stream_Flip at h
  refine ACall.lessH ?_
  refine ACall.bodyN Tryz.func54 rfl Tryz.ntmps54 Tryz.results54 rfl rfl ?_
  refine tSR <| rA rfl rfl <| rN <| tSR <| rM rfl rfl <| rM rfl rfl <| bndE h fun v1 e1 h => t_call0 rfl (Stream_Next_c e1) (CoL.refl _) (.cons .p0 .nil) rfl rfl <| ARun.qv (q_eql rfl rfl) rfl <| rA rfl rfl <| rN <| ATodo.ret <| ?_
  obtain rfl := Option.some.inj h
  exact ImpX.here ⟨_, .cons (.tmp _ _ rfl) .nil, _, .cons .p0 .nil, ⟨rfl, rfl⟩⟩

set_option maxHeartbeats 4000000 in
theorem Stream_Some_c [GI : GTab] {b_0 : Bk} {p0x0 : Fleetmake_Stream} {p1x0 : List Str} {r : Str × Fleetmake_Stream} (h : Stream_Some p0x0 p1x0 = some r) : ACall Tryz.prog 7 [.ptr b_0 0, .list 1 (p1x0.map AV.str)] [(b_0, .cells [.list 1 (p0x0.L.map I), I p0x0.at_])] (T0 ([(b_0, .cells [.list 1 (r.2.L.map I), I r.2.at_])]) (.str r.1)) := by
  unfold Stream_Some at h
  refine ACall.lessH ?_
  refine ACall.bodyN Tryz.func7 rfl Tryz.ntmps7 Tryz.results7 rfl rfl ?_
  refine tSR <| rA rfl rfl <| rN <| tSR <| rM rfl rfl <| rM rfl rfl <| rM rfl rfl <| ARun.qv (t_len rfl) rfl <| bndE h fun v1 e1 h => t_call0 rfl (Stream_Next_c e1) (CoL.refl _) (.cons .p0 .nil) rfl rfl <| bndE h fun v2 e2 h => ARun.qv (t_index rfl rfl rfl e2 rfl rfl) rfl <| ARun.qv (q_load_rptr rfl rfl rfl) rfl <| rA rfl rfl <| rN <| ATodo.ret <| ?_
  obtain rfl := Option.some.inj h
  exact ImpX.here ⟨_, .cons (.tmp _ _ rfl) .nil, _, .cons .p0 .nil, ⟨rfl, rfl⟩⟩

set_option maxHeartbeats 4000000 in
theorem Stream_leaf_1x_c [GI : GTab] {b_0p : Bk} {p0x0 : Fleetmake_Stream} {r : Str × Fleetmake_Stream} (h : Stream_leaf_1x p0x0 = some r) : ACall Tryz.prog 168 [.rptr [.ptr b_0p 0]] [(b_0p, .cells [.list 1 (p0x0.L.map I), I p0x0.at_])] (T0 ([(b_0p, .cells [.list 1 (r.2.L.map I), I r.2.at_])]) (.str r.1)) := by
  unfold Stream_leaf_1x at h
  refine ACall.lessH ?_
  refine ACall.bodyN Tryz.func168 rfl Tryz.ntmps168 Tryz.results168 rfl rfl ?_
  refine tSR <| rA rfl rfl <| rN <| tSR <| ARun.qv (q_load_rptr rfl rfl rfl) rfl <| n_buildSliceL (xs := ([([61, 61] : Str), ([61, 61] : Str), ([33, 61] : Str)]).map AV.str) rfl rfl rfl rfl rfl rfl <| bndE h fun v1 e1 h => t_call0 rfl (Stream_Some_c e1) (CoL.refl _) (.cons .p0 .nil) rfl rfl <| rA rfl rfl <| rN <| ATodo.ret <| ?_
  obtain rfl := Option.some.inj h
  exact ImpX.here ⟨_, .cons (.tmp _ _ rfl) .nil, _, .cons .p0 .nil, ⟨rfl, rfl⟩⟩

set_option maxHeartbeats 4000000 in
theorem Stream_leaf_2x_c [GI : GTab] {b_1p : Bk} {p0x0 : List Str} {p1x0 : Fleetmake_Stream} {r : ValueS × Fleetmake_Stream} (h : Stream_leaf_2x p0x0 p1x0 = some r) : ACall Tryz.prog 169 [.list 1 (p0x0.map AV.str), .rptr [.ptr b_1p 0]] [(b_1p, .cells [.list 1 (p1x0.L.map I), I p1x0.at_])] (T0 ([(b_1p, .cells [.list 1 (r.2.L.map I), I r.2.at_])]) (.agg [I r.1.Kind, .bool r.1.Flag, I r.1.Number, .str r.1.Words])) := by
  unfold Stream_leaf_2x at h
  refine ACall.lessH ?_
  refine ACall.bodyN Tryz.func169 rfl Tryz.ntmps169 Tryz.results169 rfl rfl ?_
  refine tSR <| n_alloc rfl rfl rfl rfl fun b1 => rN <| tSR <| ARun.qv (q_load_rptr rfl rfl rfl) rfl <| rM rfl rfl <| bndE h fun v2 e1 h => t_call0 rfl (Stream_Some_c e1) (CoL.refl _) (.cons .p1 .nil) rfl rfl <| ARun.qv (n_build rfl rfl rfl rfl rfl) rfl <| n_store_ptr rfl rfl rfl rfl .p1 rfl rfl <| rN <| ATodo.ret <| ?_
  obtain rfl := Option.some.inj h
  exact ImpX.here ⟨_, .cons (.all _ _ _ _ _ _ rfl .p1 TUnder.h TInfo.h rfl rfl) .nil, _, .cons .p0 .nil, ⟨rfl, rfl⟩⟩

set_option maxHeartbeats 4000000 in
theorem Q_Ops_c [GI : GTab] {r : (List Str)} (h : Q_Ops = r) : Pu Tryz.prog 170 [] (.list 1 (r.map AV.str)) := by
  unfold Q_Ops at h
  refine ACall.bodyN Tryz.func170 rfl Tryz.ntmps170 Tryz.results170 rfl rfl ?_
  refine tSR <| rA rfl rfl <| rN <| tSR <| n_buildSliceL (xs := ([([61, 61] : Str), ([33, 61] : Str), ([60, 61] : Str), ([62, 61] : Str), ([60] : Str), ([62] : Str)]).map AV.str) rfl rfl rfl rfl rfl rfl <| rA rfl rfl <| rN <| ATodo.ret <| ?_
  obtain rfl := h
  exact ImpX.here ⟨_, .cons (.tmp _ _ rfl) .nil, rfl⟩

set_option maxHeartbeats 4000000 in
theorem Stream_leaf_c [GI : GTab] {b_0 : Bk} {p0x0 : Fleetmake_Stream} {r : Query × Fleetmake_Stream} (h : Stream_leaf p0x0 = some r) : ACall Tryz.prog 114 [.ptr b_0 0] [(b_0, .cells [.list 1 (p0x0.L.map I), I p0x0.at_])] (T0 ([(b_0, .cells [.list 1 (r.2.L.map I), I r.2.at_])]) (.agg [I r.1.Kind, .str r.1.Field, .str r.1.Op, I r.1.Value.Kind, .bool r.1.Value.Flag, I r.1.Value.Number, .str r.1.Value.Words, I r.1.Version.Major, I r.1.Version.Minor, I r.1.Version.Patch, .list 11 (r.1.Kids.map Query.av)])) := by
  unfold Stream_leaf at h
  refine ACall.lessH ?_
  refine ACall.bodyN Tryz.func114 rfl Tryz.ntmps114 Tryz.results114 rfl rfl ?_
  refine tSR <| n_box rfl rfl rfl rfl fun b1 => ARun.ghost <| ImpX.frzPtr (s := 1) rfl .p0 <| ImpX.here <| n_alloc rfl rfl rfl rfl fun b2 => rN <| tSR <| ARun.qv (q_makeFunc rfl) rfl <| rA rfl rfl <| rN <| tSR <| ARun.qv (q_makeFunc rfl) rfl <| rA rfl rfl <| rN <| tS <| tSR <| ARun.qv (q_load_rptr rfl rfl rfl) rfl <| bndE h fun v3 e1 h => t_call0 rfl (Stream_Next_c e1) (CoL.refl _) (.cons .p1 .nil) rfl rfl <| rN <| ATodo.block <| tSR <| ARun.qv (q_eql rfl rfl) rfl <| rA rfl rfl <| rN <| ATodo.cond_d rfl (fun hc => ?_) (fun hc => ?_)
  · refine have h := iteT hc h; tSR <| ARun.qv (q_load_rptr rfl rfl rfl) rfl <| n_buildSliceL (xs := ([([116, 97, 103, 46, 115, 105, 116, 101] : Str), ([116, 97, 103, 46, 111, 112, 101, 110] : Str), ([112, 114, 111, 112, 46, 97] : Str), ([112, 114, 111, 112, 46, 102, 97, 110, 46, 111, 110] : Str)]).map AV.str) rfl rfl rfl rfl rfl rfl <| bndE h fun v4 e2 h => t_call0 rfl (Stream_Some_c e2) (CoL.refl _) (.cons .p0 .nil) rfl rfl <| ARun.qv (n_build rfl rfl rfl rfl rfl) rfl <| n_store_ptr rfl rfl rfl rfl .p1 rfl rfl <| rN <| ATodo.ret <| ?_
    obtain rfl := Option.some.inj h
    exact ImpX.nilBox (j := 10) 11 .p1 rfl rfl rfl <| ImpX.here ⟨_, .cons (.all _ _ _ _ _ _ rfl .p1 TUnder.h TInfo.h rfl rfl) .nil, _, .cons .p0 .nil, ⟨rfl, rfl⟩⟩
  · refine have h := iteF hc h; tSR <| ARun.qv (q_eql rfl rfl) rfl <| rA rfl rfl <| rN <| ATodo.cond_d rfl (fun hc => ?_) (fun hc => ?_)
    · refine have h := iteT hc h; tSR <| rM rfl rfl <| bndE h fun v5 e3 h => t_callv0 rfl rfl rfl (Stream_leaf_1x_c e3) (CoL.refl _) (.cons .p0 .nil) rfl rfl <| rM rfl rfl <| n_buildSliceL (xs := ([([100, 97] : Str), ([100, 98] : Str), ([102, 114, 101, 115, 104] : Str)]).map AV.str) rfl rfl rfl rfl rfl rfl <| bndE h fun v6 e4 h => t_callv0 rfl rfl rfl (Stream_leaf_2x_c e4) (CoL.refl _) (.cons .p0 .nil) rfl rfl <| ARun.qv (n_build rfl rfl rfl rfl rfl) rfl <| n_store_ptr rfl rfl rfl rfl .p1 rfl rfl <| rN <| ATodo.ret <| ?_
      obtain rfl := Option.some.inj h
      exact ImpX.nilBox (j := 10) 11 .p1 rfl rfl rfl <| ImpX.here ⟨_, .cons (.all _ _ _ _ _ _ rfl .p1 TUnder.h TInfo.h rfl rfl) .nil, _, .cons .p0 .nil, ⟨rfl, rfl⟩⟩
    · refine have h := iteF hc h; tSR <| ARun.qv (q_eql rfl rfl) rfl <| rA rfl rfl <| rN <| ATodo.cond_d rfl (fun hc => ?_) (fun hc => ?_)
      · refine have h := iteT hc h; tSR <| ARun.qv (q_load_rptr rfl rfl rfl) rfl <| n_buildSliceL (xs := ([([109, 111, 100, 101, 108] : Str), ([116, 101, 110, 97, 110, 116] : Str)]).map AV.str) rfl rfl rfl rfl rfl rfl <| bndE h fun v7 e5 h => t_call0 rfl (Stream_Some_c e5) (CoL.refl _) (.cons .p0 .nil) rfl rfl <| rM rfl rfl <| bndE h fun v8 e6 h => t_callv0 rfl rfl rfl (Stream_leaf_1x_c e6) (CoL.refl _) (.cons .p0 .nil) rfl rfl <| rM rfl rfl <| n_buildSliceL (xs := ([([109, 97] : Str), ([116, 97] : Str), ([] : Str), ([81] : Str)]).map AV.str) rfl rfl rfl rfl rfl rfl <| bndE h fun v9 e7 h => t_callv0 rfl rfl rfl (Stream_leaf_2x_c e7) (CoL.refl _) (.cons .p0 .nil) rfl rfl <| ARun.qv (n_build rfl rfl rfl rfl rfl) rfl <| n_store_ptr rfl rfl rfl rfl .p1 rfl rfl <| rN <| ATodo.ret <| ?_
        obtain rfl := Option.some.inj h
        exact ImpX.nilBox (j := 10) 11 .p1 rfl rfl rfl <| ImpX.here ⟨_, .cons (.all _ _ _ _ _ _ rfl .p1 TUnder.h TInfo.h rfl rfl) .nil, _, .cons .p0 .nil, ⟨rfl, rfl⟩⟩
      · refine have h := iteF hc h; tSR <| ARun.qv (q_eql rfl rfl) rfl <| rA rfl rfl <| rN <| ATodo.cond_d rfl (fun hc => ?_) (fun hc => ?_)
        · refine have h := iteT hc h; tS <| bndE h fun v10 e8 h => bndE h fun v11 e9 h => bndE h fun v12 e10 h => ATodo.regionT (id := 11) (A := [0, 0, 3, 0, 15, 0, 0, 127, 0, 0, 1023, 2047, 4095, 8191]) (H0 := [(b_0, .cells [.list 1 (v3.2.L.map I), I v3.2.at_])]) (HH := fun β => [(b_0, .cells [.list 1 (v12.2.L.map I), I v12.2.at_]), (b2, .cells [I (0 : Int), .str [], .str [], I (0 : Int), .bool false, I (0 : Int), .str [], I (0 : Int), I (0 : Int), I (0 : Int), .nil])]) 10 mixed rfl (by kernel_rfl) (by kernel_rfl) [⟨none, some 2, [], fun _ => (b_0, .cells [.list 1 (v3.2.L.map I), I v3.2.at_]), none⟩, ⟨some 2, some 4, [], fun _ => (b_0, .cells [.list 1 (v10.2.L.map I), I v10.2.at_]), none⟩, ⟨some 4, some 7, [], fun _ => (b_0, .cells [.list 1 (v11.2.L.map I), I v11.2.at_]), none⟩, ⟨some 7, none, [], fun _ => (b_0, .cells [.list 1 (v12.2.L.map I), I v12.2.at_]), none⟩] [] rfl (by kernel_rfl) rfl (.cons .p0 .nil) (fun _ => rfl) <| AT.am 2 rfl rfl <| AM.qv (q_load_rptr rfl rfl rfl) rfl <| AM.callp rfl (Q_Ops_c rfl) (CoL.refl _) rfl <| AM.nil <| AT.runS (av := .str v10.1) (Ti := [(b_0, .cells [.list 1 (v3.2.L.map I), I v3.2.at_])]) (Pi := [(b_0, .cells [.list 1 (v10.2.L.map I), I v10.2.at_])]) (fun _ => rfl) (fun _ => rfl) (fun _ => rfl) rfl rfl rfl ?_ ?_
          · exact t_call0 rfl (Stream_Some_c e8) (CoL.refl _) (.cons .p0 .nil) rfl rfl <| ARun.nil ⟨_, rfl, rfl⟩
          refine AT.am 1 rfl rfl <| AM.qv (q_load_rptr rfl rfl rfl) rfl <| AM.nil <| AT.runS (av := I v11.1) (Ti := [(b_0, .cells [.list 1 (v10.2.L.map I), I v10.2.at_])]) (Pi := [(b_0, .cells [.list 1 (v11.2.L.map I), I v11.2.at_])]) (fun _ => rfl) (fun _ => rfl) (fun _ => rfl) rfl rfl rfl ?_ ?_
          · exact t_call0 rfl (Stream_Next_c e9) (CoL.refl _) (.cons .p0 .nil) rfl rfl <| ARun.nil ⟨_, rfl, rfl⟩
          refine AT.am 2 rfl rfl <| AM.qv (q_load_rptr rfl rfl rfl) rfl <| AM.buildSliceL (xs := ([(0 : Int), (2 : Int)]).map I) rfl rfl rfl rfl rfl rfl <| AM.nil <| AT.runS (av := I v12.1) (Ti := [(b_0, .cells [.list 1 (v11.2.L.map I), I v11.2.at_])]) (Pi := [(b_0, .cells [.list 1 (v12.2.L.map I), I v12.2.at_])]) (fun _ => rfl) (fun _ => rfl) (fun _ => rfl) rfl rfl rfl ?_ ?_
          · exact t_call0 rfl (Stream_Pick_c e10) (CoL.refl _) (.cons .p0 .nil) rfl rfl <| ARun.nil ⟨_, rfl, rfl⟩
          refine AT.am 2 rfl rfl <| AM.qv (q_load_rptr rfl rfl rfl) rfl <| AM.buildSliceL (xs := ([(0 : Int), (0 : Int), (9999 : Int)]).map I) rfl rfl rfl rfl rfl rfl <| AM.nil <| AT.nilN (fun _ => rfl) fun β => bndE h fun v13 e11 h => t_call0 rfl (Stream_Pick_c e11) (CoL.refl _) (.cons .p0 .nil) rfl rfl <| ARun.qv (n_build rfl rfl rfl rfl rfl) rfl <| ARun.qv (n_build rfl rfl rfl rfl rfl) rfl <| n_store_ptr rfl rfl rfl rfl .p1 rfl rfl <| rN <| ATodo.ret <| ?_
          obtain rfl := Option.some.inj h
          exact ImpX.nilBox (j := 10) 11 .p1 rfl rfl rfl <| ImpX.here ⟨_, .cons (.all _ _ _ _ _ _ rfl .p1 TUnder.h TInfo.h rfl rfl) .nil, _, .cons .p0 .nil, ⟨rfl, rfl⟩⟩
        · refine have h := iteF hc h; tSR <| ARun.qv (q_eql rfl rfl) rfl <| rA rfl rfl <| rN <| ATodo.cond_d rfl (fun hc => ?_) (fun hc => ?_)
          · refine have h := iteT hc h; tSR <| rM rfl rfl <| bndE h fun v14 e12 h => t_callv0 rfl rfl rfl (Stream_leaf_1x_c e12) (CoL.refl _) (.cons .p0 .nil) rfl rfl <| rM rfl rfl <| n_buildSliceL (xs := ([([120] : Str), ([121] : Str), ([97, 34, 98, 92, 99] : Str), ([] : Str)]).map AV.str) rfl rfl rfl rfl rfl rfl <| bndE h fun v15 e13 h => t_callv0 rfl rfl rfl (Stream_leaf_2x_c e13) (CoL.refl _) (.cons .p0 .nil) rfl rfl <| ARun.qv (n_build rfl rfl rfl rfl rfl) rfl <| n_store_ptr rfl rfl rfl rfl .p1 rfl rfl <| rN <| ATodo.ret <| ?_
            obtain rfl := Option.some.inj h
            exact ImpX.nilBox (j := 10) 11 .p1 rfl rfl rfl <| ImpX.here ⟨_, .cons (.all _ _ _ _ _ _ rfl .p1 TUnder.h TInfo.h rfl rfl) .nil, _, .cons .p0 .nil, ⟨rfl, rfl⟩⟩
          · refine have h := iteF hc h; tSR <| ARun.qv (q_eql rfl rfl) rfl <| rA rfl rfl <| rN <| ATodo.cond_d rfl (fun hc => ?_) (fun hc => ?_)
            · refine have h := iteT hc h; tS <| bndE h fun v16 e14 h => ATodo.regionT (id := 15) (A := [0, 1, 0, 7, 15, 31, 63]) (H0 := [(b_0, .cells [.list 1 (v3.2.L.map I), I v3.2.at_])]) (HH := fun β => [(b_0, .cells [.list 1 (v16.2.L.map I), I v16.2.at_]), (b2, .cells [I (0 : Int), .str [], .str [], I (0 : Int), .bool false, I (0 : Int), .str [], I (0 : Int), I (0 : Int), I (0 : Int), .nil])]) 3 mixed rfl (by kernel_rfl) (by kernel_rfl) [⟨none, some 1, [], fun _ => (b_0, .cells [.list 1 (v3.2.L.map I), I v3.2.at_]), none⟩, ⟨some 1, none, [], fun _ => (b_0, .cells [.list 1 (v16.2.L.map I), I v16.2.at_]), none⟩] [] rfl (by kernel_rfl) rfl (.cons .p0 .nil) (fun _ => rfl) <| AT.am 1 rfl rfl <| AM.qv (q_move rfl) rfl <| AM.nil <| AT.runS (av := .str v16.1) (Ti := [(b_0, .cells [.list 1 (v3.2.L.map I), I v3.2.at_])]) (Pi := [(b_0, .cells [.list 1 (v16.2.L.map I), I v16.2.at_])]) (fun _ => rfl) (fun _ => rfl) (fun _ => rfl) rfl rfl rfl ?_ ?_
              · exact t_callv0 rfl rfl rfl (Stream_leaf_1x_c e14) (CoL.refl _) (.cons .p0 .nil) rfl rfl <| ARun.nil ⟨_, rfl, rfl⟩
              refine AT.am 1 rfl rfl <| AM.qv (q_load_rptr rfl rfl rfl) rfl <| AM.nil <| AT.nilN (fun _ => rfl) fun β => bndE h fun v17 e15 h => t_call0 rfl (Stream_Flip_c e15) (CoL.refl _) (.cons .p0 .nil) rfl rfl <| ARun.qv (n_build rfl rfl rfl rfl rfl) rfl <| ARun.qv (n_build rfl rfl rfl rfl rfl) rfl <| n_store_ptr rfl rfl rfl rfl .p1 rfl rfl <| rN <| ATodo.ret <| ?_
              obtain rfl := Option.some.inj h
              exact ImpX.nilBox (j := 10) 11 .p1 rfl rfl rfl <| ImpX.here ⟨_, .cons (.all _ _ _ _ _ _ rfl .p1 TUnder.h TInfo.h rfl rfl) .nil, _, .cons .p0 .nil, ⟨rfl, rfl⟩⟩
            · refine have h := iteF hc h; tSR <| ARun.qv (q_eql rfl rfl) rfl <| rA rfl rfl <| rN <| ATodo.cond_d rfl (fun hc => ?_) (fun hc => ?_)
              · refine have h := iteT hc h; tSR <| rM rfl rfl <| bndE h fun v18 e16 h => t_callv0 rfl rfl rfl (Stream_leaf_1x_c e16) (CoL.refl _) (.cons .p0 .nil) rfl rfl <| rM rfl rfl <| n_buildSliceL (xs := ([([120] : Str), ([] : Str)]).map AV.str) rfl rfl rfl rfl rfl rfl <| bndE h fun v19 e17 h => t_callv0 rfl rfl rfl (Stream_leaf_2x_c e17) (CoL.refl _) (.cons .p0 .nil) rfl rfl <| ARun.qv (n_build rfl rfl rfl rfl rfl) rfl <| n_store_ptr rfl rfl rfl rfl .p1 rfl rfl <| rN <| ATodo.ret <| ?_
                obtain rfl := Option.some.inj h
                exact ImpX.nilBox (j := 10) 11 .p1 rfl rfl rfl <| ImpX.here ⟨_, .cons (.all _ _ _ _ _ _ rfl .p1 TUnder.h TInfo.h rfl rfl) .nil, _, .cons .p0 .nil, ⟨rfl, rfl⟩⟩
              · refine have h := iteF hc h; tK <| ATodo.blk <| tS <| bndE h fun v20 e18 h => ATodo.regionT (id := 18) (A := [0, 0, 3, 0, 0, 31, 63, 127, 255]) (H0 := [(b_0, .cells [.list 1 (v3.2.L.map I), I v3.2.at_])]) (HH := fun β => [(b_0, .cells [.list 1 (v20.2.L.map I), I v20.2.at_]), (b2, .cells [I (0 : Int), .str [], .str [], I (0 : Int), .bool false, I (0 : Int), .str [], I (0 : Int), I (0 : Int), I (0 : Int), .nil])]) 5 mixed rfl (by kernel_rfl) (by kernel_rfl) [⟨none, some 2, [], fun _ => (b_0, .cells [.list 1 (v3.2.L.map I), I v3.2.at_]), none⟩, ⟨some 2, none, [], fun _ => (b_0, .cells [.list 1 (v20.2.L.map I), I v20.2.at_]), none⟩] [] rfl (by kernel_rfl) rfl (.cons .p0 .nil) (fun _ => rfl) <| AT.am 2 rfl rfl <| AM.qv (q_load_rptr rfl rfl rfl) rfl <| AM.callp rfl (Q_Ops_c rfl) (CoL.refl _) rfl <| AM.nil <| AT.runS (av := .str v20.1) (Ti := [(b_0, .cells [.list 1 (v3.2.L.map I), I v3.2.at_])]) (Pi := [(b_0, .cells [.list 1 (v20.2.L.map I), I v20.2.at_])]) (fun _ => rfl) (fun _ => rfl) (fun _ => rfl) rfl rfl rfl ?_ ?_
                · exact t_call0 rfl (Stream_Some_c e18) (CoL.refl _) (.cons .p0 .nil) rfl rfl <| ARun.nil ⟨_, rfl, rfl⟩
                refine AT.am 2 rfl rfl <| AM.qv (q_load_rptr rfl rfl rfl) rfl <| AM.buildSliceL (xs := ([(0 : Int), (5 : Int), (6 : Int), (-5 : Int)]).map I) rfl rfl rfl rfl rfl rfl <| AM.nil <| AT.nilN (fun _ => rfl) fun β => bndE h fun v21 e19 h => t_call0 rfl (Stream_Pick_c e19) (CoL.refl _) (.cons .p0 .nil) rfl rfl <| ARun.qv (n_build rfl rfl rfl rfl rfl) rfl <| ARun.qv (n_build rfl rfl rfl rfl rfl) rfl <| n_store_ptr rfl rfl rfl rfl .p1 rfl rfl <| rN <| ATodo.ret <| ?_
                obtain rfl := Option.some.inj h
                exact ImpX.nilBox (j := 10) 11 .p1 rfl rfl rfl <| ImpX.here ⟨_, .cons (.all _ _ _ _ _ _ rfl .p1 TUnder.h TInfo.h rfl rfl) .nil, _, .cons .p0 .nil, ⟨rfl, rfl⟩⟩

set_option maxHeartbeats 4000000 in
theorem Stream_RightQuery_bd_c [GI : GTab] {b_0 : Bk} {self : Fleetmake_Stream → Int → Option (Query × Fleetmake_Stream)} (self_h : ∀ {b_0 : Bk} {p0x0 : Fleetmake_Stream} {p1x0 : Int} {r : Query × Fleetmake_Stream}, self p0x0 p1x0 = some r → ACall Tryz.prog 112 [.ptr b_0 0, I p1x0] [(b_0, .cells [.list 1 (p0x0.L.map I), I p0x0.at_])] (T0 ([(b_0, .cells [.list 1 (r.2.L.map I), I r.2.at_])]) (.agg [I r.1.Kind, .str r.1.Field, .str r.1.Op, I r.1.Value.Kind, .bool r.1.Value.Flag, I r.1.Value.Number, .str r.1.Value.Words, I r.1.Version.Major, I r.1.Version.Minor, I r.1.Version.Patch, .list 11 (r.1.Kids.map Query.av)]))) {p0x0 : Fleetmake_Stream} {p1x0 : Int} {r : Query × Fleetmake_Stream} (h : Stream_RightQuery_bd self p0x0 p1x0 = some r) : ACall Tryz.prog 112 [.ptr b_0 0, I p1x0] [(b_0, .cells [.list 1 (p0x0.L.map I), I p0x0.at_])] (T0 ([(b_0, .cells [.list 1 (r.2.L.map I), I r.2.at_])]) (.agg [I r.1.Kind, .str r.1.Field, .str r.1.Op, I r.1.Value.Kind, .bool r.1.Value.Flag, I r.1.Value.Number, .str r.1.Value.Words, I r.1.Version.Major, I r.1.Version.Minor, I r.1.Version.Patch, .list 11 (r.1.Kids.map Query.av)])) := by
  unfold Stream_RightQuery_bd at h
  refine ACall.lessH ?_
  refine ACall.bodyN Tryz.func112 rfl Tryz.ntmps112 Tryz.results112 rfl rfl ?_
  refine tSR <| n_alloc rfl rfl rfl rfl fun b1 => rN <| tS <| tS <| ATodo.cut (fun σ' => ∃ (l2 : List Int) (n3 : Int) (c4 : Bool), Stream_RightQuery_j1 self p1x0 l2 n3 c4 = some r ∧ σ' = ⟨57, [(0, .ptr b_0 0), (1, I p1x0), (4, .ptr b1 0), (13, .bool c4)], [(b_0, .cells [.list 1 (l2.map I), I n3]), (b1, .cells [I (0 : Int), .str [], .str [], I (0 : Int), .bool false, I (0 : Int), .str [], I (0 : Int), I (0 : Int), I (0 : Int), .nil])]⟩) ?_ ?_
  · refine tR <| rM rfl rfl <| ARun.qv (q_eql rfl rfl) rfl <| rM rfl rfl <| ARun.guard_df rfl rfl rfl (fun hc => ?_) (fun hc => ?_)
    · exact have h := iteF hc h; rM rfl rfl <| rY rfl rfl rfl <| bndE h fun v5 e1 h => t_call0 rfl (Stream_Flip_c e1) (CoL.refl _) (.cons .p1 .nil) rfl rfl <| rE rfl rfl rfl <| rN <| ATodo.stop <| ImpX.lq [0, 0] ⟨v5.2.L, v5.2.at_, v5.1, h, rfl⟩ rfl rfl
    · exact have h := iteT hc h; rG rfl rfl rfl rfl <| rT rfl rfl rfl <| rN <| ATodo.stop <| ImpX.lq [1, 0] ⟨p0x0.L, p0x0.at_, true, h, rfl⟩ rfl rfl
  · rintro σ' ⟨l2, n3, c4, h, rfl⟩
    unfold Stream_RightQuery_j1 at h
    refine ATodo.cond rfl (fun hc => ?_) (fun hc => ?_)
    · refine have h := iteT hc h; tSR <| rM rfl rfl <| bndE h fun v6 e2 h => t_call0 rfl (Stream_leaf_c e2) (CoL.refl _) (.cons .p0 .nil) rfl rfl <| n_store_ptr rfl rfl rfl rfl .p1 rfl rfl <| rN <| ATodo.ret <| ?_
      obtain rfl := Option.some.inj h
      exact ImpX.here ⟨_, .cons (.all _ _ _ _ _ _ rfl .p1 TUnder.h TInfo.h rfl rfl) .nil, _, .cons .p0 .nil, ⟨rfl, rfl⟩⟩
    · refine have h := iteFb hc h; tK <| tSR <| rM rfl rfl <| n_buildSliceL (xs := ([(3 : Int), (4 : Int), (5 : Int)]).map I) rfl rfl rfl rfl rfl rfl <| bndE h fun v7 e3 h => t_call0 rfl (Stream_Pick_c e3) (CoL.refl _) (.cons .p0 .nil) rfl rfl <| ARun.qv (n_build rfl rfl rfl rfl rfl) rfl <| n_alloc rfl rfl rfl rfl fun b8 => n_store_ptr rfl rfl rfl rfl .p0 rfl rfl <| rN <| tSR <| rA rfl rfl <| rN <| tS <| tSR <| rF rfl rfl rfl <| rL rfl rfl .p0 rfl rfl <| ARun.qv (q_neq rfl rfl) rfl <| rN <| ATodo.cut (fun σ' => ∃ (l9 : List Int) (n10 : Int) (n11 : Int), Stream_RightQuery_j2 self p1x0 v7 l9 n10 n11 = some r ∧ σ' = ⟨57, [(0, .ptr b_0 0), (1, I p1x0), (4, .ptr b1 0), (5, .ptr b8 0), (6, I n11)], [(b_0, .cells [.list 1 (l9.map I), I n10]), (b1, .cells [I (0 : Int), .str [], .str [], I (0 : Int), .bool false, I (0 : Int), .str [], I (0 : Int), I (0 : Int), I (0 : Int), .nil]), (b8, .cells [I v7.1, .str [], .str [], I (0 : Int), .bool false, I (0 : Int), .str [], I (0 : Int), I (0 : Int), I (0 : Int), .nil])]⟩) ?_ ?_
      · refine ATodo.cond_d rfl (fun hc => ?_) (fun hc => ?_)
        · exact have h := iteT hc h; tR <| rM rfl rfl <| n_buildSliceL (xs := ([(2 : Int), (2 : Int), (3 : Int)]).map I) rfl rfl rfl rfl rfl rfl <| bndE h fun v12 e4 h => t_call0 rfl (Stream_Pick_c e4) (CoL.refl _) (.cons .p1 .nil) rfl rfl <| rA rfl rfl <| rN <| ATodo.stop <| ImpX.lq [0, 1, 0] ⟨v12.2.L, v12.2.at_, v12.1, h, rfl⟩ rfl rfl
        · exact have h := iteF hc h; tK <| ATodo.stop <| ImpX.lq [1, 1, 0] ⟨v7.2.L, v7.2.at_, (1 : Int), h, rfl⟩ rfl rfl
      · rintro σ' ⟨l9, n10, n11, h, rfl⟩
        unfold Stream_RightQuery_j2 at h
        refine tS <| tSR <| rM rfl rfl <| rM rfl rfl <| rN <| ATodo.block <| ATodo.loopI (fun x : (List Int) × Int × (List Query) × Int => Stream_RightQuery_b1 self p1x0 v7 n11 x.1 x.2.1 x.2.2.1 x.2.2.2) (fun x σ' => ∃ (b20 : Bk), σ' = ⟨57, [(0, .ptr b_0 0), (1, I p1x0), (4, .ptr b1 0), (5, .ptr b8 0), (26, I n11), (27, I x.2.2.2)], [(b_0, .cells [.list 1 (x.1.map I), I x.2.1]), (b1, .cells [I (0 : Int), .str [], .str [], I (0 : Int), .bool false, I (0 : Int), .str [], I (0 : Int), I (0 : Int), I (0 : Int), .nil]), (b8, .cells [I v7.1, .str [], .str [], I (0 : Int), .bool false, I (0 : Int), .str [], I (0 : Int), I (0 : Int), I (0 : Int), .sl 11 b20 0 x.2.2.1.length]), (b20, .arr 11 (x.2.2.1.map Query.av))]⟩) h ?_ ?_
        · exact ImpX.arrBox (j := 10) 11 (fun _ => .p2) rfl (fun _ => rfl) (fun _ => rfl) fun b23 => ImpX.lq [1, 1, 1, 0] ⟨b23, rfl⟩ rfl rfl
        · intro x z1 σ' J1 hmk h hJ1 hA1
          obtain ⟨l18, n19, l21, n22⟩ := x
          obtain ⟨b20, rfl⟩ := hmk
          replace h : Stream_RightQuery_b1 self p1x0 v7 n11 l18 n19 l21 n22 = some z1 := h
          unfold Stream_RightQuery_b1 at h
          refine tSR <| ARun.qv (q_lss rfl rfl) rfl <| rN <| tS <| ATodo.cond_d rfl (fun hc => ?_) (fun hc => ?_)
          · refine have h := iteT hc h; tK <| tS <| ATodo.block <| tSR <| rM rfl rfl <| rM rfl rfl <| ARun.qv (q_subw rfl rfl) rfl <| bndE h fun v24 e5 h => t_call0 rfl (self_h e5) (CoL.refl _) (.cons .p0 .nil) rfl rfl <| n_alloc rfl rfl rfl rfl fun b25 => n_store_ptr rfl rfl rfl rfl .p0 rfl rfl <| rN <| tS <| ATodo.cut (fun σ' => ∃ (c26 : Bool), Stream_RightQuery_j3 l21 n22 v24 c26 = some z1 ∧ σ' = ⟨57, [(0, .ptr b_0 0), (1, I p1x0), (4, .ptr b1 0), (5, .ptr b8 0), (7, .ptr b25 0), (26, I n11), (27, I n22), (42, .bool c26)], [(b_0, .cells [.list 1 (v24.2.L.map I), I v24.2.at_]), (b1, .cells [I (0 : Int), .str [], .str [], I (0 : Int), .bool false, I (0 : Int), .str [], I (0 : Int), I (0 : Int), I (0 : Int), .nil]), (b8, .cells [I v7.1, .str [], .str [], I (0 : Int), .bool false, I (0 : Int), .str [], I (0 : Int), I (0 : Int), I (0 : Int), .sl 11 b20 0 l21.length]), (b20, .arr 11 (l21.map Query.av)), (b25, .cells [I v24.1.Kind, .str v24.1.Field, .str v24.1.Op, I v24.1.Value.Kind, .bool v24.1.Value.Flag, I v24.1.Value.Number, .str v24.1.Value.Words, I v24.1.Version.Major, I v24.1.Version.Minor, I v24.1.Version.Patch, .list 11 (v24.1.Kids.map Query.av)])]⟩) ?_ ?_
            · refine tR <| rF rfl rfl rfl <| rL rfl rfl .p0 rfl rfl <| rF rfl rfl rfl <| rL rfl rfl .p3 rfl rfl <| ARun.qv (q_eql rfl rfl) rfl <| rM rfl rfl <| ARun.guard_dt rfl rfl rfl (fun hc => ?_) (fun hc => ?_)
              · rw [andTd hc] at h
                exact rF rfl rfl rfl <| rY rfl rfl rfl <| rL rfl rfl .p3 rfl rfl <| rY rfl rfl rfl <| ARun.qv (q_neq rfl rfl) rfl <| rT rfl rfl rfl <| rN <| ATodo.stop <| ImpX.lq [1, 1, 1, 1, 0] ⟨decide (v7.1 ≠ (3 : Int)), h, rfl⟩ rfl rfl
              · rw [andFd hc] at h
                exact rG rfl rfl rfl rfl <| rG rfl rfl rfl rfl <| rE rfl rfl rfl <| rN <| ATodo.stop <| ImpX.lq [1, 1, 1, 1, 0] ⟨false, h, rfl⟩ rfl rfl
            · rintro σ' ⟨c26, h, rfl⟩
              unfold Stream_RightQuery_j3 at h
              refine ATodo.cut (fun σ' => ∃ (b27 : Bk) (l28 : List Query), Stream_RightQuery_j4 n22 v24 l28 = some z1 ∧ σ' = ⟨57, [(0, .ptr b_0 0), (1, I p1x0), (4, .ptr b1 0), (5, .ptr b8 0), (26, I n11), (27, I n22)], [(b_0, .cells [.list 1 (v24.2.L.map I), I v24.2.at_]), (b1, .cells [I (0 : Int), .str [], .str [], I (0 : Int), .bool false, I (0 : Int), .str [], I (0 : Int), I (0 : Int), I (0 : Int), .nil]), (b8, .cells [I v7.1, .str [], .str [], I (0 : Int), .bool false, I (0 : Int), .str [], I (0 : Int), I (0 : Int), I (0 : Int), .sl 11 b27 0 l28.length]), (b27, .arr 11 (l28.map Query.av))]⟩) ?_ ?_
              · refine ATodo.cond rfl (fun hc => ?_) (fun hc => ?_)
                · exact have h := iteT hc h; tR <| rF rfl rfl rfl <| rL rfl rfl .p2 rfl rfl <| rF rfl rfl rfl <| rL rfl rfl .p4 rfl rfl <| bndE h fun l29 e6 h => t_append (g := Query.av) rfl rfl rfl rfl rfl rfl rfl rfl (.list _) e6 (fun _ => .p3) rfl fun b30 => rF rfl rfl rfl <| n_store_ptr rfl rfl rfl rfl .p2 rfl rfl <| rN <| ATodo.stop <| ImpX.lq [0, 0, 0, 0] ⟨b30, l29, h, rfl⟩ rfl rfl
                · exact have h := iteFb hc h; tR <| rF rfl rfl rfl <| rL rfl rfl .p2 rfl rfl <| ARun.qv (q_load_ptr_all rfl rfl .p4 rfl) rfl <| n_buildSliceL (xs := ([v24.1] : List Query).map Query.av) rfl (by simp only [List.map_cons, List.map_nil, Query.av_eq]; rfl) rfl (by simp only [List.map_cons, List.map_nil, Query.av_eq]; rfl) rfl rfl <| bndE h fun l31 e7 h => t_append (g := Query.av) rfl rfl rfl rfl rfl rfl rfl rfl (.list _) e7 (fun _ => .p3) rfl fun b32 => rF rfl rfl rfl <| n_store_ptr rfl rfl rfl rfl .p2 rfl rfl <| rN <| ATodo.stop <| ImpX.lq [0, 0, 0, 0] ⟨b32, l31, h, rfl⟩ rfl rfl
              · rintro σ' ⟨b27, l28, h, rfl⟩
                unfold Stream_RightQuery_j4 at h
                refine ATodo.blk <| tR <| ARun.qv (q_addw rfl rfl) rfl <| rM rfl rfl <| rN <| ATodo.stop <| ?_
                obtain rfl := Option.some.inj h
                exact hJ1 _ _ rfl <| ImpX.lq [0, 0, 0, 0] ⟨b27, rfl⟩ rfl rfl
          · refine have h := iteF hc h; ATodo.exit rfl <| have h := outL h hA1; tSR <| ARun.qv (q_load_ptr_all rfl rfl .p2 rfl) rfl <| n_store_ptr rfl rfl rfl rfl .p1 rfl rfl <| rN <| ATodo.ret <| ?_
            obtain rfl := Option.some.inj h
            exact ImpX.freeze .p3 <| ImpX.coBox (j := 10) .p1 rfl (Co.froT .p3) rfl rfl <| ImpX.here ⟨_, .cons (.all _ _ _ _ _ _ rfl .p1 TUnder.h TInfo.h rfl rfl) .nil, _, .cons .p0 .nil, ⟨rfl, rfl⟩⟩
theorem Stream_RightQuery_r_c [GI : GTab] : ∀ (k : Nat) {b_0 : Bk} {p0x0 : Fleetmake_Stream} {p1x0 : Int} {r : Query × Fleetmake_Stream}, Stream_RightQuery_r k p0x0 p1x0 = some r → ACall Tryz.prog 112 [.ptr b_0 0, I p1x0] [(b_0, .cells [.list 1 (p0x0.L.map I), I p0x0.at_])] (T0 ([(b_0, .cells [.list 1 (r.2.L.map I), I r.2.at_])]) (.agg [I r.1.Kind, .str r.1.Field, .str r.1.Op, I r.1.Value.Kind, .bool r.1.Value.Flag, I r.1.Value.Number, .str r.1.Value.Words, I r.1.Version.Major, I r.1.Version.Minor, I r.1.Version.Patch, .list 11 (r.1.Kids.map Query.av)])) := by
  intro k
  induction k with
  | zero => intro b_0 p0x0 p1x0 r h; cases h
  | succ k ih => intro b_0 p0x0 p1x0 r h; exact Stream_RightQuery_bd_c ih h
theorem Stream_RightQuery_c [GI : GTab] {b_0 : Bk} {p0x0 : Fleetmake_Stream} {p1x0 : Int} {r : Query × Fleetmake_Stream} (h : Stream_RightQuery p0x0 p1x0 = some r) : ACall Tryz.prog 112 [.ptr b_0 0, I p1x0] [(b_0, .cells [.list 1 (p0x0.L.map I), I p0x0.at_])] (T0 ([(b_0, .cells [.list 1 (r.2.L.map I), I r.2.at_])]) (.agg [I r.1.Kind, .str r.1.Field, .str r.1.Op, I r.1.Value.Kind, .bool r.1.Value.Flag, I r.1.Value.Number, .str r.1.Value.Words, I r.1.Version.Major, I r.1.Version.Minor, I r.1.Version.Patch, .list 11 (r.1.Kids.map Query.av)])) := Stream_RightQuery_r_c depth h

set_option maxHeartbeats 4000000 in
theorem Stream_Range_c [GI : GTab] {b_0 : Bk} {p0x0 : Fleetmake_Stream} {p1x0 : Int} {p2x0 : Int} {r : Int × Fleetmake_Stream} (h : Stream_Range p0x0 p1x0 p2x0 = some r) : ACall Tryz.prog 158 [.ptr b_0 0, I p1x0, I p2x0] [(b_0, .cells [.list 1 (p0x0.L.map I), I p0x0.at_])] (T0 ([(b_0, .cells [.list 1 (r.2.L.map I), I r.2.at_])]) (I r.1)) := by
  unfold Stream_Range at h
  refine ACall.lessH ?_
  refine ACall.bodyN Tryz.func158 rfl Tryz.ntmps158 Tryz.results158 rfl rfl ?_
  refine tSR <| rA rfl rfl <| rN <| tS <| tSR <| rM rfl rfl <| rM rfl rfl <| ARun.qv (q_lss rfl rfl) rfl <| rN <| ATodo.cond_d rfl (fun hc => ?_) (fun hc => ?_)
  · refine have h := iteT hc h; tSR <| rM rfl rfl <| rA rfl rfl <| rN <| ATodo.ret <| ?_
    obtain rfl := Option.some.inj h
    exact ImpX.here ⟨_, .cons (.tmp _ _ rfl) .nil, _, .cons .p0 .nil, ⟨rfl, rfl⟩⟩
  · refine have h := iteF hc h; tK <| tSR <| rM rfl rfl <| rM rfl rfl <| rM rfl rfl <| rM rfl rfl <| ARun.qv (q_subw rfl rfl) rfl <| ARun.qv (q_addw rfl rfl) rfl <| bndE h fun v1 e1 h => t_call0 rfl (Stream_Next_c e1) (CoL.refl _) (.cons .p0 .nil) rfl rfl <| ARun.qv (q_addw rfl rfl) rfl <| rA rfl rfl <| rN <| ATodo.ret <| ?_
    obtain rfl := Option.some.inj h
    exact ImpX.here ⟨_, .cons (.tmp _ _ rfl) .nil, _, .cons .p0 .nil, ⟨rfl, rfl⟩⟩

set_option maxHeartbeats 4000000 in
theorem Stream_Odd_c [GI : GTab] {b_0 : Bk} {p0x0 : Fleetmake_Stream} {p1x0 : Int} {p2x0 : Int} {r : Int × Fleetmake_Stream} (h : Stream_Odd p0x0 p1x0 p2x0 = some r) : ACall Tryz.prog 84 [.ptr b_0 0, I p1x0, I p2x0] [(b_0, .cells [.list 1 (p0x0.L.map I), I p0x0.at_])] (T0 ([(b_0, .cells [.list 1 (r.2.L.map I), I r.2.at_])]) (I r.1)) := by
  unfold Stream_Odd at h
  refine ACall.lessH ?_
  refine ACall.bodyN Tryz.func84 rfl Tryz.ntmps84 Tryz.results84 rfl rfl ?_
  refine tSR <| rA rfl rfl <| rN <| tS <| tSR <| rM rfl rfl <| bndE h fun v1 e1 h => t_call0 rfl (Stream_Flip_c e1) (CoL.refl _) (.cons .p0 .nil) rfl rfl <| rN <| ATodo.cond rfl (fun hc => ?_) (fun hc => ?_)
  · refine have h := iteT hc h; tSR <| rM rfl rfl <| rM rfl rfl <| ARun.qv (q_subw rfl rfl) rfl <| rM rfl rfl <| ARun.qv (q_addw rfl rfl) rfl <| rM rfl rfl <| rM rfl rfl <| n_buildSliceL (xs := ([w64 (p1x0 - (1 : Int)), w64 (p2x0 + (1 : Int)), p1x0, p2x0, (-1099511627776 : Int), (1099511627776 : Int)]).map I) rfl rfl rfl rfl rfl rfl <| bndE h fun v2 e2 h => t_call0 rfl (Stream_Pick_c e2) (CoL.refl _) (.cons .p0 .nil) rfl rfl <| rA rfl rfl <| rN <| ATodo.ret <| ?_
    obtain rfl := Option.some.inj h
    exact ImpX.here ⟨_, .cons (.tmp _ _ rfl) .nil, _, .cons .p0 .nil, ⟨rfl, rfl⟩⟩
  · refine have h := iteFb hc h; tK <| tSR <| rM rfl rfl <| rM rfl rfl <| rM rfl rfl <| bndE h fun v3 e3 h => t_call0 rfl (Stream_Range_c e3) (CoL.refl _) (.cons .p0 .nil) rfl rfl <| rA rfl rfl <| rN <| ATodo.ret <| ?_
    obtain rfl := Option.some.inj h
    exact ImpX.here ⟨_, .cons (.tmp _ _ rfl) .nil, _, .cons .p0 .nil, ⟨rfl, rfl⟩⟩

set_option maxHeartbeats 4000000 in
theorem slices_Clone_Query_Query_c [GI : GTab] {p0x0 : List Query} {r : (List Query)} (h : slices_Clone_Query_Query p0x0 = some r) : ACall Tryz.prog 113 [.list 11 (p0x0.map Query.av)] [] (T1 (fun d_0 => [(d_0, .arr 11 (r.map Query.av))]) (fun d_0 => .sl 11 d_0 0 r.length)) := by
  unfold slices_Clone_Query_Query at h
  refine ACall.lessH ?_
  refine ACall.bodyN Tryz.func113 rfl Tryz.ntmps113 Tryz.results113 rfl rfl ?_
  refine ATodo.seq ?_
  refine ATodo.region ?_
  refine ARun.qv (q_assign rfl) rfl ?_
  refine ARun.nil ?_
  refine ATodo.seq ?_
  refine ATodo.seq ?_
  refine ATodo.region ?_
  refine ARun.qv (q_move rfl) rfl ?_
  refine r_eqnil rfl rfl rfl rfl (fun c hc => ?_)
  refine ARun.nil ?_
  refine ATodo.cond rfl (fun hT => ?_) (fun hF => ?_)
  · obtain rfl := app_nil_some h (List.map_eq_nil_iff.1 (hc hT))
    refine ATodo.seq ?_
    refine ATodo.region ?_
    refine ARun.qv (q_assign rfl) rfl ?_
    refine ARun.nil ?_
    refine ATodo.ret ?_
    refine ImpX.arr (s := 2) 11 rfl (fun b1 => ?_)
    exact ImpX.here ⟨_, .cons (.tmp _ _ rfl) .nil, _, .cons .here .nil, ⟨b1, rfl, rfl⟩⟩
  · refine ATodo.skip ?_
    refine ATodo.seq ?_
    refine ATodo.region ?_
    refine n_buildSlice (xs := ([] : List Query).map Query.av) rfl rfl rfl rfl rfl rfl (fun b2 => ?_)
    refine ARun.qv (q_move rfl) rfl ?_
    refine t_append (g := Query.av) (Xs := []) rfl rfl rfl rfl rfl rfl rfl rfl (.list _) h (fun _ => .here) rfl (fun b3 => ?_)
    refine ARun.qv (q_assign rfl) rfl ?_
    refine ARun.nil ?_
    refine ATodo.ret ?_
    exact ImpX.here ⟨_, .cons (.tmp _ _ rfl) .nil, _, .cons .here .nil, ⟨b3, rfl, rfl⟩⟩

set_option maxHeartbeats 4000000 in
theorem Stream_Query_c [GI : GTab] {b_0 : Bk} {p0x0 : Fleetmake_Stream} {r : Query × Fleetmake_Stream} (h : Stream_Query p0x0 = some r) : ACall Tryz.prog 43 [.ptr b_0 0] [(b_0, .cells [.list 1 (p0x0.L.map I), I p0x0.at_])] (T0 ([(b_0, .cells [.list 1 (r.2.L.map I), I r.2.at_])]) (.agg [I r.1.Kind, .str r.1.Field, .str r.1.Op, I r.1.Value.Kind, .bool r.1.Value.Flag, I r.1.Value.Number, .str r.1.Value.Words, I r.1.Version.Major, I r.1.Version.Minor, I r.1.Version.Patch, .list 11 (r.1.Kids.map Query.av)])) := by
  unfold Stream_Query at h
  refine ACall.lessH ?_
  refine ACall.bodyN Tryz.func43 rfl Tryz.ntmps43 Tryz.results43 rfl rfl ?_
  refine tSR <| n_alloc rfl rfl rfl rfl fun b1 => rN <| tSR <| rM rfl rfl <| rM rfl rfl <| n_buildSliceL (xs := ([(0 : Int), (1 : Int), (1 : Int), (2 : Int)]).map I) rfl rfl rfl rfl rfl rfl <| bndE h fun v2 e1 h => t_call0 rfl (Stream_Pick_c e1) (CoL.refl _) (.cons .p1 .nil) rfl rfl <| bndE h fun v3 e2 h => t_call0 rfl (Stream_RightQuery_c e2) (CoL.refl _) (.cons .p0 .nil) rfl rfl <| n_alloc rfl rfl rfl rfl fun b4 => n_store_ptr rfl rfl rfl rfl .p0 rfl rfl <| rN <| tS <| tSR <| rM rfl rfl <| bndE h fun v5 e3 h => t_call0 rfl (Stream_Flip_c e3) (CoL.refl _) (.cons .p1 .nil) rfl rfl <| rN <| ATodo.cut (fun σ' => ∃ (l6 : List Int) (n7 : Int) (n8 : Int) (q9 : Str) (q10 : Str) (n11 : Int) (c12 : Bool) (n13 : Int) (q14 : Str) (n15 : Int) (n16 : Int) (n17 : Int) (l18 : List Query), Stream_Query_j1 l6 n7 n8 q9 q10 n11 c12 n13 q14 n15 n16 n17 l18 = some r ∧ σ' = ⟨63, [(2, .ptr b1 0), (3, .ptr b4 0)], [(b_0, .cells [.list 1 (l6.map I), I n7]), (b1, .cells [I (0 : Int), .str [], .str [], I (0 : Int), .bool false, I (0 : Int), .str [], I (0 : Int), I (0 : Int), I (0 : Int), .nil]), (b4, .cells [I n8, .str q9, .str q10, I n11, .bool c12, I n13, .str q14, I n15, I n16, I n17, .list 11 (l18.map Query.av)])]⟩) ?_ ?_
  · refine ATodo.cond rfl (fun hc => ?_) (fun hc => ?_)
    · refine have h := iteT hc h; tSR <| rM rfl rfl <| bndE h fun v19 e4 h => t_call0 rfl (Stream_Next_c e4) (CoL.refl _) (.cons .p0 .nil) rfl rfl <| rN <| ATodo.block <| tSR <| ARun.qv (q_eql rfl rfl) rfl <| rA rfl rfl <| rN <| ATodo.cut (fun σ' => ∃ (l20 : List Int) (n21 : Int) (n22 : Int) (q23 : Str) (q24 : Str) (n25 : Int) (c26 : Bool) (n27 : Int) (q28 : Str) (n29 : Int) (n30 : Int) (n31 : Int) (l32 : List Query), Stream_Query_j2 l20 n21 n22 q23 q24 n25 c26 n27 q28 n29 n30 n31 l32 = some r ∧ σ' = ⟨63, [(2, .ptr b1 0), (3, .ptr b4 0)], [(b_0, .cells [.list 1 (l20.map I), I n21]), (b1, .cells [I (0 : Int), .str [], .str [], I (0 : Int), .bool false, I (0 : Int), .str [], I (0 : Int), I (0 : Int), I (0 : Int), .nil]), (b4, .cells [I n22, .str q23, .str q24, I n25, .bool c26, I n27, .str q28, I n29, I n30, I n31, .list 11 (l32.map Query.av)])]⟩) ?_ ?_
      · refine ATodo.cond_d rfl (fun hc => ?_) (fun hc => ?_)
        · exact have h := iteT hc h; tR <| rM rfl rfl <| bndE h fun v33 e5 h => t_call0 rfl (Stream_Odd_c e5) (CoL.refl _) (.cons .p0 .nil) rfl rfl <| rF rfl rfl rfl <| n_store_ptr rfl rfl rfl rfl .p1 rfl rfl <| rN <| ATodo.stop <| ImpX.lq [0, 1, 0] ⟨v33.2.L, v33.2.at_, v33.1, v3.1.Field, v3.1.Op, v3.1.Value.Kind, v3.1.Value.Flag, v3.1.Value.Number, v3.1.Value.Words, v3.1.Version.Major, v3.1.Version.Minor, v3.1.Version.Patch, v3.1.Kids, h, rfl⟩ rfl rfl
        · refine have h := iteF hc h; tSR <| ARun.qv (q_eql rfl rfl) rfl <| rA rfl rfl <| rN <| ATodo.cut (fun σ' => ∃ (l34 : List Int) (n35 : Int) (n36 : Int) (q37 : Str) (q38 : Str) (n39 : Int) (c40 : Bool) (n41 : Int) (q42 : Str) (n43 : Int) (n44 : Int) (n45 : Int) (l46 : List Query), Stream_Query_j3 l34 n35 n36 q37 q38 n39 c40 n41 q42 n43 n44 n45 l46 = some r ∧ σ' = ⟨63, [(2, .ptr b1 0), (3, .ptr b4 0)], [(b_0, .cells [.list 1 (l34.map I), I n35]), (b1, .cells [I (0 : Int), .str [], .str [], I (0 : Int), .bool false, I (0 : Int), .str [], I (0 : Int), I (0 : Int), I (0 : Int), .nil]), (b4, .cells [I n36, .str q37, .str q38, I n39, .bool c40, I n41, .str q42, I n43, I n44, I n45, .list 11 (l46.map Query.av)])]⟩) ?_ ?_
          · refine ATodo.cond_d rfl (fun hc => ?_) (fun hc => ?_)
            · exact have h := iteT hc h; tR <| rM rfl rfl <| n_buildSliceL (xs := ([([] : Str), ([110, 111, 112, 101] : Str), ([116, 97, 103, 46] : Str), ([116, 97, 103, 46, 65] : Str), ([112, 114, 111, 112, 46, 97, 46] : Str), ([107, 101, 121] : Str), ([102, 105, 114, 109, 119, 97, 114, 101] : Str)]).map AV.str) rfl rfl rfl rfl rfl rfl <| bndE h fun v47 e6 h => t_call0 rfl (Stream_Some_c e6) (CoL.refl _) (.cons .p0 .nil) rfl rfl <| rF rfl rfl rfl <| n_store_ptr rfl rfl rfl rfl .p1 rfl rfl <| rN <| ATodo.stop <| ImpX.lq [0, 1, 0] ⟨v47.2.L, v47.2.at_, v3.1.Kind, v47.1, v3.1.Op, v3.1.Value.Kind, v3.1.Value.Flag, v3.1.Value.Number, v3.1.Value.Words, v3.1.Version.Major, v3.1.Version.Minor, v3.1.Version.Patch, v3.1.Kids, h, rfl⟩ rfl rfl
            · refine have h := iteF hc h; tSR <| ARun.qv (q_eql rfl rfl) rfl <| rA rfl rfl <| rN <| ATodo.cut (fun σ' => ∃ (l48 : List Int) (n49 : Int) (n50 : Int) (q51 : Str) (q52 : Str) (n53 : Int) (c54 : Bool) (n55 : Int) (q56 : Str) (n57 : Int) (n58 : Int) (n59 : Int) (l60 : List Query), Stream_Query_j4 l48 n49 n50 q51 q52 n53 c54 n55 q56 n57 n58 n59 l60 = some r ∧ σ' = ⟨63, [(2, .ptr b1 0), (3, .ptr b4 0)], [(b_0, .cells [.list 1 (l48.map I), I n49]), (b1, .cells [I (0 : Int), .str [], .str [], I (0 : Int), .bool false, I (0 : Int), .str [], I (0 : Int), I (0 : Int), I (0 : Int), .nil]), (b4, .cells [I n50, .str q51, .str q52, I n53, .bool c54, I n55, .str q56, I n57, I n58, I n59, .list 11 (l60.map Query.av)])]⟩) ?_ ?_
              · refine ATodo.cond_d rfl (fun hc => ?_) (fun hc => ?_)
                · exact have h := iteT hc h; tR <| rM rfl rfl <| n_buildSliceL (xs := ([([] : Str), ([61] : Str), ([60] : Str), ([61, 61] : Str)]).map AV.str) rfl rfl rfl rfl rfl rfl <| bndE h fun v61 e7 h => t_call0 rfl (Stream_Some_c e7) (CoL.refl _) (.cons .p0 .nil) rfl rfl <| rF rfl rfl rfl <| n_store_ptr rfl rfl rfl rfl .p1 rfl rfl <| rN <| ATodo.stop <| ImpX.lq [0, 1, 0] ⟨v61.2.L, v61.2.at_, v3.1.Kind, v3.1.Field, v61.1, v3.1.Value.Kind, v3.1.Value.Flag, v3.1.Value.Number, v3.1.Value.Words, v3.1.Version.Major, v3.1.Version.Minor, v3.1.Version.Patch, v3.1.Kids, h, rfl⟩ rfl rfl
                · refine have h := iteF hc h; tSR <| ARun.qv (q_eql rfl rfl) rfl <| rA rfl rfl <| rN <| ATodo.cut (fun σ' => ∃ (l62 : List Int) (n63 : Int) (n64 : Int) (q65 : Str) (q66 : Str) (n67 : Int) (c68 : Bool) (n69 : Int) (q70 : Str) (n71 : Int) (n72 : Int) (n73 : Int) (l74 : List Query), Stream_Query_j5 l62 n63 n64 q65 q66 n67 c68 n69 q70 n71 n72 n73 l74 = some r ∧ σ' = ⟨63, [(2, .ptr b1 0), (3, .ptr b4 0)], [(b_0, .cells [.list 1 (l62.map I), I n63]), (b1, .cells [I (0 : Int), .str [], .str [], I (0 : Int), .bool false, I (0 : Int), .str [], I (0 : Int), I (0 : Int), I (0 : Int), .nil]), (b4, .cells [I n64, .str q65, .str q66, I n67, .bool c68, I n69, .str q70, I n71, I n72, I n73, .list 11 (l74.map Query.av)])]⟩) ?_ ?_
                  · refine ATodo.cond_d rfl (fun hc => ?_) (fun hc => ?_)
                    · exact have h := iteT hc h; tR <| ARun.qv (n_build rfl rfl rfl rfl rfl) rfl <| ARun.qv (n_build rfl rfl rfl rfl rfl) rfl <| ARun.qv (n_build rfl rfl rfl rfl rfl) rfl <| ARun.qv (n_build rfl rfl rfl rfl rfl) rfl <| ARun.qv (n_build rfl rfl rfl rfl rfl) rfl <| n_buildSliceL (xs := ([(⟨(0 : Int), false, (0 : Int), []⟩ : ValueS), (⟨(9 : Int), false, (0 : Int), []⟩ : ValueS), (⟨(1 : Int), false, (1 : Int), []⟩ : ValueS), (⟨(3 : Int), false, (0 : Int), ([255] : Str)⟩ : ValueS), (⟨(2 : Int), false, (1000000001 : Int), []⟩ : ValueS)]).map ValueS.av) rfl rfl rfl rfl rfl rfl <| rM rfl rfl <| bndE h fun v75 e8 h => t_call0 rfl (Stream_Next_c e8) (CoL.refl _) (.cons .p0 .nil) rfl rfl <| bndE h fun v76 e9 h => ARun.qv (t_index rfl rfl rfl e9 rfl rfl) rfl <| ARun.qv (q_load_rptr_agg rfl rfl rfl) rfl <| rF rfl rfl rfl <| n_store_ptr rfl rfl rfl rfl .p1 rfl rfl <| rN <| ATodo.stop <| ImpX.lq [0, 1, 0] ⟨v75.2.L, v75.2.at_, v3.1.Kind, v3.1.Field, v3.1.Op, v76.Kind, v76.Flag, v76.Number, v76.Words, v3.1.Version.Major, v3.1.Version.Minor, v3.1.Version.Patch, v3.1.Kids, h, rfl⟩ rfl rfl
                    · refine have h := iteF hc h; tSR <| ARun.qv (q_eql rfl rfl) rfl <| rA rfl rfl <| rN <| ATodo.cut (fun σ' => ∃ (l77 : List Int) (n78 : Int) (n79 : Int) (q80 : Str) (q81 : Str) (n82 : Int) (c83 : Bool) (n84 : Int) (q85 : Str) (n86 : Int) (n87 : Int) (n88 : Int) (l89 : List Query), Stream_Query_j6 l77 n78 n79 q80 q81 n82 c83 n84 q85 n86 n87 n88 l89 = some r ∧ σ' = ⟨63, [(2, .ptr b1 0), (3, .ptr b4 0)], [(b_0, .cells [.list 1 (l77.map I), I n78]), (b1, .cells [I (0 : Int), .str [], .str [], I (0 : Int), .bool false, I (0 : Int), .str [], I (0 : Int), I (0 : Int), I (0 : Int), .nil]), (b4, .cells [I n79, .str q80, .str q81, I n82, .bool c83, I n84, .str q85, I n86, I n87, I n88, .list 11 (l89.map Query.av)])]⟩) ?_ ?_
                      · refine ATodo.cond_d rfl (fun hc => ?_) (fun hc => ?_)
                        · exact have h := iteT hc h; tR <| rF rfl rfl rfl <| rL rfl rfl .p1 rfl rfl <| bndE h fun v90 e10 h => t_call1 rfl (slices_Clone_Query_Query_c e10) (CoL.refl _) .nil (fun _ => rfl) rfl fun b91 => rM rfl rfl <| bndE h fun v92 e11 h => t_call0 rfl (Stream_leaf_c e11) (CoL.refl _) (.cons .p1 .nil) rfl rfl <| n_buildSliceL (xs := ([v92.1] : List Query).map Query.av) rfl (by simp only [List.map_cons, List.map_nil, Query.av_eq]; rfl) rfl (by simp only [List.map_cons, List.map_nil, Query.av_eq]; rfl) rfl rfl <| bndE h fun l93 e12 h => t_append (g := Query.av) rfl rfl rfl rfl rfl rfl rfl rfl (.list _) e12 (fun _ => .p1) rfl fun b94 => rF rfl rfl rfl <| n_store_ptr rfl rfl rfl rfl .p2 rfl rfl <| rN <| ATodo.stop <| ImpX.freeze .p1 <| ImpX.coBox (j := 10) .p2 rfl (Co.froT .p1) rfl rfl <| ImpX.lq [0, 2, 1] ⟨v92.2.L, v92.2.at_, v3.1.Kind, v3.1.Field, v3.1.Op, v3.1.Value.Kind, v3.1.Value.Flag, v3.1.Value.Number, v3.1.Value.Words, v3.1.Version.Major, v3.1.Version.Minor, v3.1.Version.Patch, l93, h, rfl⟩ rfl rfl
                        · refine have h := iteF hc h; tSR <| rM rfl rfl <| n_buildSliceL (xs := ([(18 : Int), (19 : Int), (20 : Int)]).map I) rfl rfl rfl rfl rfl rfl <| bndE h fun v95 e13 h => t_call0 rfl (Stream_Pick_c e13) (CoL.refl _) (.cons .p0 .nil) rfl rfl <| rM rfl rfl <| rN <| ATodo.block <| ATodo.loopI (fun x : Int × Str × Str × Int × Bool × Int × Str × Int × Int × Int × (List Query) × Int => Stream_Query_b1 v95 x.1 x.2.1 x.2.2.1 x.2.2.2.1 x.2.2.2.2.1 x.2.2.2.2.2.1 x.2.2.2.2.2.2.1 x.2.2.2.2.2.2.2.1 x.2.2.2.2.2.2.2.2.1 x.2.2.2.2.2.2.2.2.2.1 x.2.2.2.2.2.2.2.2.2.2.1 x.2.2.2.2.2.2.2.2.2.2.2) (fun x σ' => σ' = ⟨63, [(2, .ptr b1 0), (3, .ptr b4 0), (15, I v95.1), (16, I x.2.2.2.2.2.2.2.2.2.2.2)], [(b_0, .cells [.list 1 (v95.2.L.map I), I v95.2.at_]), (b1, .cells [I (0 : Int), .str [], .str [], I (0 : Int), .bool false, I (0 : Int), .str [], I (0 : Int), I (0 : Int), I (0 : Int), .nil]), (b4, .cells [I x.1, .str x.2.1, .str x.2.2.1, I x.2.2.2.1, .bool x.2.2.2.2.1, I x.2.2.2.2.2.1, .str x.2.2.2.2.2.2.1, I x.2.2.2.2.2.2.2.1, I x.2.2.2.2.2.2.2.2.1, I x.2.2.2.2.2.2.2.2.2.1, .list 11 (x.2.2.2.2.2.2.2.2.2.2.1.map Query.av)])]⟩) h ?_ ?_
                          · exact ImpX.lq [0, 1, 0] rfl rfl rfl
                          · intro x z1 σ' J1 hmk h hJ1 hA1
                            obtain ⟨n108, q109, q110, n111, c112, n113, q114, n115, n116, n117, l118, n119⟩ := x
                            obtain rfl := hmk
                            replace h : Stream_Query_b1 v95 n108 q109 q110 n111 c112 n113 q114 n115 n116 n117 l118 n119 = some z1 := h
                            unfold Stream_Query_b1 at h
                            refine tSR <| ARun.qv (q_lss rfl rfl) rfl <| rN <| tS <| ATodo.cond_d rfl (fun hc => ?_) (fun hc => ?_)
                            · refine have h := iteT hc h; tK <| tS <| ATodo.block <| tR <| ARun.qv (q_load_ptr_all rfl rfl .p2 rfl) rfl <| n_buildSliceL (xs := ([(⟨n108, q109, q110, (⟨n111, c112, n113, q114⟩ : ValueS), (⟨n115, n116, n117⟩ : Version), l118⟩ : Query)]).map Query.av) rfl (by simp only [List.map_cons, List.map_nil, Query.av_eq]; rfl) rfl (by simp only [List.map_cons, List.map_nil, Query.av_eq]; rfl) rfl rfl <| ARun.qv (n_build rfl rfl rfl rfl rfl) rfl <| n_store_ptr rfl rfl rfl rfl .p2 rfl rfl <| rN <| ATodo.blk <| tR <| ARun.qv (q_addw rfl rfl) rfl <| rM rfl rfl <| rN <| ATodo.stop <| ?_
                              obtain rfl := Option.some.inj h
                              exact hJ1 _ _ rfl <| ImpX.lq [0, 0, 0] rfl rfl rfl
                            · exact have h := iteF hc h; ATodo.exit rfl <| have h := outL h hA1; ATodo.stop <| ImpX.lq [0, 0, 0] ⟨v95.2.L, v95.2.at_, n108, q109, q110, n111, c112, n113, q114, n115, n116, n117, l118, h, rfl⟩ rfl rfl
                      · rintro σ' ⟨l77, n78, n79, q80, q81, n82, c83, n84, q85, n86, n87, n88, l89, h, rfl⟩
                        unfold Stream_Query_j6 at h
                        exact ATodo.stop <| ImpX.lq [0, 0, 0] ⟨l77, n78, n79, q80, q81, n82, c83, n84, q85, n86, n87, n88, l89, h, rfl⟩ rfl rfl
                  · rintro σ' ⟨l62, n63, n64, q65, q66, n67, c68, n69, q70, n71, n72, n73, l74, h, rfl⟩
                    unfold Stream_Query_j5 at h
                    exact ATodo.stop <| ImpX.lq [0, 0, 0] ⟨l62, n63, n64, q65, q66, n67, c68, n69, q70, n71, n72, n73, l74, h, rfl⟩ rfl rfl
              · rintro σ' ⟨l48, n49, n50, q51, q52, n53, c54, n55, q56, n57, n58, n59, l60, h, rfl⟩
                unfold Stream_Query_j4 at h
                exact ATodo.stop <| ImpX.lq [0, 0, 0] ⟨l48, n49, n50, q51, q52, n53, c54, n55, q56, n57, n58, n59, l60, h, rfl⟩ rfl rfl
          · rintro σ' ⟨l34, n35, n36, q37, q38, n39, c40, n41, q42, n43, n44, n45, l46, h, rfl⟩
            unfold Stream_Query_j3 at h
            exact ATodo.stop <| ImpX.lq [0, 0, 0] ⟨l34, n35, n36, q37, q38, n39, c40, n41, q42, n43, n44, n45, l46, h, rfl⟩ rfl rfl
      · rintro σ' ⟨l20, n21, n22, q23, q24, n25, c26, n27, q28, n29, n30, n31, l32, h, rfl⟩
        unfold Stream_Query_j2 at h
        exact ATodo.blk <| ATodo.stop <| ImpX.lq [0, 0, 0] ⟨l20, n21, n22, q23, q24, n25, c26, n27, q28, n29, n30, n31, l32, h, rfl⟩ rfl rfl
    · exact have h := iteFb hc h; tK <| ATodo.stop <| ImpX.lq [0, 1, 0] ⟨v5.2.L, v5.2.at_, v3.1.Kind, v3.1.Field, v3.1.Op, v3.1.Value.Kind, v3.1.Value.Flag, v3.1.Value.Number, v3.1.Value.Words, v3.1.Version.Major, v3.1.Version.Minor, v3.1.Version.Patch, v3.1.Kids, h, rfl⟩ rfl rfl
  · rintro σ' ⟨l6, n7, n8, q9, q10, n11, c12, n13, q14, n15, n16, n17, l18, h, rfl⟩
    unfold Stream_Query_j1 at h
    refine tSR <| ARun.qv (q_load_ptr_all rfl rfl .p2 rfl) rfl <| n_store_ptr rfl rfl rfl rfl .p1 rfl rfl <| rN <| ATodo.ret <| ?_
    obtain rfl := Option.some.inj h
    exact ImpX.here ⟨_, .cons (.all _ _ _ _ _ _ rfl .p1 TUnder.h TInfo.h rfl rfl) .nil, _, .cons .p0 .nil, ⟨rfl, rfl⟩⟩

set_option maxHeartbeats 4000000 in
theorem Stream_Item_c [GI : GTab] {b_0 : Bk} {p0x0 : Fleetmake_Stream} {p1x0 : Str} {r : ItemS × Fleetmake_Stream} (h : Stream_Item p0x0 p1x0 = some r) : ACall Tryz.prog 44 [.ptr b_0 0, .str p1x0] [(b_0, .cells [.list 1 (p0x0.L.map I), I p0x0.at_])] (T0 ([(b_0, .cells [.list 1 (r.2.L.map I), I r.2.at_])]) (.agg [.str r.1.Device.Key, .str r.1.Device.Model, .str r.1.Device.Tenant, I r.1.Device.Firmware.Major, I r.1.Device.Firmware.Minor, I r.1.Device.Firmware.Patch, .list 2 (r.1.Device.Tags.map Pair.av), .list 5 (r.1.Props.map PropS.av)])) := by
  unfold Stream_Item at h
  refine ACall.lessH ?_
  refine ACall.bodyN Tryz.func44 rfl Tryz.ntmps44 Tryz.results44 rfl rfl ?_
  refine tSR <| n_alloc rfl rfl rfl rfl fun b1 => rN <| tSR <| rM rfl rfl <| rM rfl rfl <| n_buildSliceL (xs := ([([109, 97] : Str), ([109, 98] : Str)]).map AV.str) rfl rfl rfl rfl rfl rfl <| bndE h fun v2 e1 h => t_call0 rfl (Stream_Some_c e1) (CoL.refl _) (.cons .p1 .nil) rfl rfl <| rM rfl rfl <| n_buildSliceL (xs := ([([116, 97] : Str), ([116, 98] : Str), ([116, 100] : Str), ([] : Str)]).map AV.str) rfl rfl rfl rfl rfl rfl <| bndE h fun v3 e2 h => t_call0 rfl (Stream_Some_c e2) (CoL.refl _) (.cons .p0 .nil) rfl rfl <| rM rfl rfl <| bndE h fun v4 e3 h => t_call0 rfl (Stream_Next_c e3) (CoL.refl _) (.cons .p0 .nil) rfl rfl <| rM rfl rfl <| n_buildSliceL (xs := ([(0 : Int), (2 : Int)]).map I) rfl rfl rfl rfl rfl rfl <| bndE h fun v5 e4 h => t_call0 rfl (Stream_Pick_c e4) (CoL.refl _) (.cons .p0 .nil) rfl rfl <| ARun.qv (n_build rfl rfl rfl rfl rfl) rfl <| ARun.qv (n_build rfl rfl rfl rfl rfl) rfl <| ARun.qv (n_build rfl rfl rfl rfl rfl) rfl <| n_alloc rfl rfl rfl rfl fun b6 => n_store_ptr rfl rfl rfl rfl .p0 rfl rfl <| rN <| tS <| tSR <| n_buildSliceL (xs := ([([111, 112, 101, 110] : Str), ([115, 105, 116, 101] : Str)]).map AV.str) rfl rfl rfl rfl rfl rfl <| ARun.qv (t_len rfl) rfl <| rM rfl rfl <| rN <| ATodo.block <| ATodo.loopI (fun x : (List Int) × Int × (List Pair) × Int => Stream_Item_b1 p1x0 v2 v3 v4 v5 x.1 x.2.1 x.2.2.1 x.2.2.2) (fun x σ' => ∃ (b14 : Bk), σ' = ⟨131, [(0, .ptr b_0 0), (4, .ptr b1 0), (5, .ptr b6 0), (25, .list 1 ([([111, 112, 101, 110] : Str), ([115, 105, 116, 101] : Str)].map AV.str)), (26, I ([([111, 112, 101, 110] : Str), ([115, 105, 116, 101] : Str)].length : Int)), (27, I x.2.2.2)], [(b_0, .cells [.list 1 (x.1.map I), I x.2.1]), (b1, .cells [.str [], .str [], .str [], I (0 : Int), I (0 : Int), I (0 : Int), .nil, .nil]), (b6, .cells [.str p1x0, .str v2.1, .str v3.1, I v4.1, I v5.1, I (0 : Int), .sl 2 b14 0 x.2.2.1.length, .nil]), (b14, .arr 2 (x.2.2.1.map Pair.av))]⟩) h ?_ ?_
  · exact ImpX.arrBox (j := 6) 2 (fun _ => .p0) rfl (fun _ => rfl) (fun _ => rfl) fun b17 => ImpX.lq [2, 2, 1, 0] ⟨b17, rfl⟩ rfl rfl
  · intro x z1 σ' J1 hmk h hJ1 hA1
    obtain ⟨l12, n13, l15, n16⟩ := x
    obtain ⟨b14, rfl⟩ := hmk
    replace h : Stream_Item_b1 p1x0 v2 v3 v4 v5 l12 n13 l15 n16 = some z1 := h
    unfold Stream_Item_b1 at h
    refine tSR <| ARun.qv (q_lss rfl rfl) rfl <| rN <| tS <| ATodo.cond_d rfl (fun hc => ?_) (fun hc => ?_)
    · refine have h := iteT hc h; tK <| tS <| ATodo.block <| tSR <| bndE h fun v18 e5 h => ARun.qv (t_index rfl rfl rfl e5 rfl rfl) rfl <| ARun.qv (q_load_rptr rfl rfl rfl) rfl <| rA rfl rfl <| rN <| tSR <| rM rfl rfl <| bndE h fun v19 e6 h => t_call0 rfl (Stream_Flip_c e6) (CoL.refl _) (.cons .p0 .nil) rfl rfl <| rN <| ATodo.cut (fun σ' => ∃ (b22 : Bk) (l20 : List Int) (n21 : Int) (l23 : List Pair), Stream_Item_j1 n16 l20 n21 l23 = some z1 ∧ σ' = ⟨131, [(0, .ptr b_0 0), (4, .ptr b1 0), (5, .ptr b6 0), (25, .list 1 ([([111, 112, 101, 110] : Str), ([115, 105, 116, 101] : Str)].map AV.str)), (26, I ([([111, 112, 101, 110] : Str), ([115, 105, 116, 101] : Str)].length : Int)), (27, I n16)], [(b_0, .cells [.list 1 (l20.map I), I n21]), (b1, .cells [.str [], .str [], .str [], I (0 : Int), I (0 : Int), I (0 : Int), .nil, .nil]), (b6, .cells [.str p1x0, .str v2.1, .str v3.1, I v4.1, I v5.1, I (0 : Int), .sl 2 b22 0 l23.length, .nil]), (b22, .arr 2 (l23.map Pair.av))]⟩) ?_ ?_
      · refine ATodo.cond rfl (fun hc => ?_) (fun hc => ?_)
        · refine have h := iteT hc h; bndE h fun v24 e7 h => ATodo.regionT (id := 6) (A := [0, 1, 3, 0, 0, 0, 48, 120, 248, 511, 1023, 2047, 4095]) (H0 := [(b_0, .cells [.list 1 (v19.2.L.map I), I v19.2.at_])]) (HH := fun β => [(b_0, .cells [.list 1 (v24.2.L.map I), I v24.2.at_]), (b1, .cells [.str [], .str [], .str [], I (0 : Int), I (0 : Int), I (0 : Int), .nil, .nil]), (b6, .cells [.str p1x0, .str v2.1, .str v3.1, I v4.1, I v5.1, I (0 : Int), .sl 2 b14 0 l15.length, .nil]), (b14, .arr 2 (l15.map Pair.av))]) 9 mixed rfl (by kernel_rfl) (by kernel_rfl) [⟨none, some 6, [], fun _ => (b_0, .cells [.list 1 (v19.2.L.map I), I v19.2.at_]), none⟩, ⟨some 6, none, [], fun _ => (b_0, .cells [.list 1 (v24.2.L.map I), I v24.2.at_]), none⟩] [] rfl (by kernel_rfl) rfl (.cons .p0 .nil) (fun _ => rfl) <| AT.am 6 rfl rfl <| AM.qv (n_field_ptr rfl rfl) rfl <| AM.qv (n_field_ptr rfl rfl) rfl <| AM.qv (q_load_ptr rfl rfl .p1 rfl) rfl <| AM.qv (q_move rfl) rfl <| AM.qv (q_move rfl) rfl <| AM.buildSliceL (xs := ([([120] : Str), ([121] : Str), ([97, 34, 98, 92, 99] : Str)]).map AV.str) rfl rfl rfl rfl rfl rfl <| AM.nil <| AT.runS (av := .str v24.1) (Ti := [(b_0, .cells [.list 1 (v19.2.L.map I), I v19.2.at_])]) (Pi := [(b_0, .cells [.list 1 (v24.2.L.map I), I v24.2.at_])]) (fun _ => rfl) (fun _ => rfl) (fun _ => rfl) rfl rfl rfl ?_ ?_
          · exact t_call0 rfl (Stream_Some_c e7) (CoL.refl _) (.cons .p0 .nil) rfl rfl <| ARun.nil ⟨_, rfl, rfl⟩
          exact AT.am 2 rfl rfl <| AM.qv (n_build rfl rfl rfl rfl rfl) rfl <| AM.buildSliceL (xs := ([(⟨v18, v24.1⟩ : Pair)]).map Pair.av) rfl rfl rfl rfl rfl rfl <| AM.nil <| AT.nilN (fun _ => rfl) fun β => bndE h fun l25 e8 h => t_append (g := Pair.av) rfl rfl rfl rfl rfl rfl rfl rfl (.list _) e8 (fun _ => .p3) rfl fun b26 => rF rfl rfl rfl <| rF rfl rfl rfl <| n_store_ptr rfl rfl rfl rfl .p2 rfl rfl <| rN <| ATodo.stop <| ImpX.lq [0, 0, 0, 0] ⟨b26, v24.2.L, v24.2.at_, l25, h, rfl⟩ rfl rfl
        · exact have h := iteFb hc h; tK <| ATodo.stop <| ImpX.lq [0, 0, 0, 0] ⟨b14, v19.2.L, v19.2.at_, l15, h, rfl⟩ rfl rfl
      · rintro σ' ⟨b22, l20, n21, l23, h, rfl⟩
        unfold Stream_Item_j1 at h
        refine ATodo.blk <| tR <| ARun.qv (q_addw rfl rfl) rfl <| rM rfl rfl <| rN <| ATodo.stop <| ?_
        obtain rfl := Option.some.inj h
        exact hJ1 _ _ rfl <| ImpX.lq [0, 0, 0, 0] ⟨b22, rfl⟩ rfl rfl
    · refine have h := iteF hc h; ATodo.exit rfl <| have h := outL h hA1; tS <| tSR <| n_buildSliceL (xs := ([([97] : Str), ([102, 97, 110, 46, 111, 110] : Str)]).map AV.str) rfl rfl rfl rfl rfl rfl <| ARun.qv (t_len rfl) rfl <| rM rfl rfl <| rN <| ATodo.block <| ATodo.loopI (fun x : (List Int) × Int × (List PropS) × Int => Stream_Item_b2 p1x0 v2 v3 v4 v5 l15 x.1 x.2.1 x.2.2.1 x.2.2.2) (fun x σ' => ∃ (b34 : Bk), σ' = ⟨131, [(0, .ptr b_0 0), (4, .ptr b1 0), (5, .ptr b6 0), (46, .list 1 ([([97] : Str), ([102, 97, 110, 46, 111, 110] : Str)].map AV.str)), (47, I ([([97] : Str), ([102, 97, 110, 46, 111, 110] : Str)].length : Int)), (48, I x.2.2.2)], [(b_0, .cells [.list 1 (x.1.map I), I x.2.1]), (b1, .cells [.str [], .str [], .str [], I (0 : Int), I (0 : Int), I (0 : Int), .nil, .nil]), (b6, .cells [.str p1x0, .str v2.1, .str v3.1, I v4.1, I v5.1, I (0 : Int), .sl 2 b14 0 l15.length, .sl 5 b34 0 x.2.2.1.length]), (b14, .arr 2 (l15.map Pair.av)), (b34, .arr 5 (x.2.2.1.map PropS.av))]⟩) h ?_ ?_
      · exact ImpX.arrBox (j := 7) 5 (fun _ => .p2) rfl (fun _ => rfl) (fun _ => rfl) fun b37 => ImpX.lq [1, 1, 1, 1, 0] ⟨b37, rfl⟩ rfl rfl
      · intro x z2 σ' J2 hmk h hJ2 hA2
        obtain ⟨l32, n33, l35, n36⟩ := x
        obtain ⟨b34, rfl⟩ := hmk
        replace h : Stream_Item_b2 p1x0 v2 v3 v4 v5 l15 l32 n33 l35 n36 = some z2 := h
        unfold Stream_Item_b2 at h
        refine tSR <| ARun.qv (q_lss rfl rfl) rfl <| rN <| tS <| ATodo.cond_d rfl (fun hc => ?_) (fun hc => ?_)
        · refine have h := iteT hc h; tK <| tS <| ATodo.block <| tSR <| bndE h fun v38 e9 h => ARun.qv (t_index rfl rfl rfl e9 rfl rfl) rfl <| ARun.qv (q_load_rptr rfl rfl rfl) rfl <| rA rfl rfl <| rN <| tSR <| rM rfl rfl <| bndE h fun v39 e10 h => t_call0 rfl (Stream_Flip_c e10) (CoL.refl _) (.cons .p0 .nil) rfl rfl <| rN <| ATodo.cut (fun σ' => ∃ (b42 : Bk) (l40 : List Int) (n41 : Int) (l43 : List PropS), Stream_Item_j2 n36 l40 n41 l43 = some z2 ∧ σ' = ⟨131, [(0, .ptr b_0 0), (4, .ptr b1 0), (5, .ptr b6 0), (46, .list 1 ([([97] : Str), ([102, 97, 110, 46, 111, 110] : Str)].map AV.str)), (47, I ([([97] : Str), ([102, 97, 110, 46, 111, 110] : Str)].length : Int)), (48, I n36)], [(b_0, .cells [.list 1 (l40.map I), I n41]), (b1, .cells [.str [], .str [], .str [], I (0 : Int), I (0 : Int), I (0 : Int), .nil, .nil]), (b6, .cells [.str p1x0, .str v2.1, .str v3.1, I v4.1, I v5.1, I (0 : Int), .sl 2 b14 0 l15.length, .sl 5 b42 0 l43.length]), (b14, .arr 2 (l15.map Pair.av)), (b42, .arr 5 (l43.map PropS.av))]⟩) ?_ ?_
          · refine ATodo.cond rfl (fun hc => ?_) (fun hc => ?_)
            · refine have h := iteT hc h; bndE h fun v44 e11 h => bndE h fun v45 e12 h => bndE h fun v46 e13 h => bndE h fun v47 e14 h => bndE h fun v48 e15 h => ATodo.regionT (id := 12) (A := [0, 1, 0, 0, 0, 24, 56, 0, 184, 440, 0, 0, 3512, 7608, 16376, 0, 0, 105912, 262136, 524280, 1048572, 2097148, 4194303, 8388607, 16777215]) (H0 := [(b_0, .cells [.list 1 (v39.2.L.map I), I v39.2.at_])]) (HH := fun β => [(b_0, .cells [.list 1 (v47.2.L.map I), I v47.2.at_]), (b1, .cells [.str [], .str [], .str [], I (0 : Int), I (0 : Int), I (0 : Int), .nil, .nil]), (b6, .cells [.str p1x0, .str v2.1, .str v3.1, I v4.1, I v5.1, I (0 : Int), .sl 2 b14 0 l15.length, .sl 5 b34 0 l35.length]), (b14, .arr 2 (l15.map Pair.av)), (b34, .arr 5 (l35.map PropS.av))]) 22 mixed rfl (by kernel_rfl) (by kernel_rfl) [⟨none, some 5, [], fun _ => (b_0, .cells [.list 1 (v39.2.L.map I), I v39.2.at_]), none⟩, ⟨some 5, some 8, [], fun _ => (b_0, .cells [.list 1 (v44.2.L.map I), I v44.2.at_]), none⟩, ⟨some 8, some 12, [], fun _ => (b_0, .cells [.list 1 (v45.2.L.map I), I v45.2.at_]), none⟩, ⟨some 12, some 17, [], fun _ => (b_0, .cells [.list 1 (v46.2.L.map I), I v46.2.at_]), none⟩, ⟨some 17, none, [], fun _ => (b_0, .cells [.list 1 (v47.2.L.map I), I v47.2.at_]), none⟩] [] rfl (by kernel_rfl) rfl (.cons .p0 .nil) (fun _ => rfl) <| AT.am 5 rfl rfl <| AM.qv (n_field_ptr rfl rfl) rfl <| AM.qv (q_load_ptr rfl rfl .p1 rfl) rfl <| AM.qv (q_move rfl) rfl <| AM.qv (q_move rfl) rfl <| AM.buildSliceL (xs := ([(0 : Int), (5 : Int), (6 : Int), (-5 : Int)]).map I) rfl rfl rfl rfl rfl rfl <| AM.nil <| AT.runS (av := I v44.1) (Ti := [(b_0, .cells [.list 1 (v39.2.L.map I), I v39.2.at_])]) (Pi := [(b_0, .cells [.list 1 (v44.2.L.map I), I v44.2.at_])]) (fun _ => rfl) (fun _ => rfl) (fun _ => rfl) rfl rfl rfl ?_ ?_
              · exact t_call0 rfl (Stream_Pick_c e11) (CoL.refl _) (.cons .p0 .nil) rfl rfl <| ARun.nil ⟨_, rfl, rfl⟩
              refine AT.am 2 rfl rfl <| AM.qv (n_build rfl rfl rfl rfl rfl) rfl <| AM.qv (q_move rfl) rfl <| AM.nil <| AT.runS (av := .bool v45.1) (Ti := [(b_0, .cells [.list 1 (v44.2.L.map I), I v44.2.at_])]) (Pi := [(b_0, .cells [.list 1 (v45.2.L.map I), I v45.2.at_])]) (fun _ => rfl) (fun _ => rfl) (fun _ => rfl) rfl rfl rfl ?_ ?_
              · exact t_call0 rfl (Stream_Flip_c e12) (CoL.refl _) (.cons .p0 .nil) rfl rfl <| ARun.nil ⟨_, rfl, rfl⟩
              refine AT.am 3 rfl rfl <| AM.qv (n_build rfl rfl rfl rfl rfl) rfl <| AM.qv (q_move rfl) rfl <| AM.buildSliceL (xs := ([([120] : Str), ([] : Str)]).map AV.str) rfl rfl rfl rfl rfl rfl <| AM.nil <| AT.runS (av := .str v46.1) (Ti := [(b_0, .cells [.list 1 (v45.2.L.map I), I v45.2.at_])]) (Pi := [(b_0, .cells [.list 1 (v46.2.L.map I), I v46.2.at_])]) (fun _ => rfl) (fun _ => rfl) (fun _ => rfl) rfl rfl rfl ?_ ?_
              · exact t_call0 rfl (Stream_Some_c e13) (CoL.refl _) (.cons .p0 .nil) rfl rfl <| ARun.nil ⟨_, rfl, rfl⟩
              refine AT.am 4 rfl rfl <| AM.qv (n_build rfl rfl rfl rfl rfl) rfl <| AM.buildSliceL (xs := ([(⟨(2 : Int), false, v44.1, []⟩ : ValueS), (⟨(1 : Int), v45.1, (0 : Int), []⟩ : ValueS), (⟨(3 : Int), false, (0 : Int), v46.1⟩ : ValueS)]).map ValueS.av) rfl rfl rfl rfl rfl rfl <| AM.qv (q_move rfl) rfl <| AM.buildSliceL (xs := ([(0 : Int), (0 : Int), (1 : Int), (2 : Int)]).map I) rfl rfl rfl rfl rfl rfl <| AM.nil <| AT.runS (av := I v47.1) (Ti := [(b_0, .cells [.list 1 (v46.2.L.map I), I v46.2.at_])]) (Pi := [(b_0, .cells [.list 1 (v47.2.L.map I), I v47.2.at_])]) (fun _ => rfl) (fun _ => rfl) (fun _ => rfl) rfl rfl rfl ?_ ?_
              · exact t_call0 rfl (Stream_Pick_c e14) (CoL.refl _) (.cons .p0 .nil) rfl rfl <| ARun.nil ⟨_, rfl, rfl⟩
              exact AT.am 4 rfl rfl <| AM.qv (t_index rfl rfl rfl e15 rfl rfl) rfl <| AM.qv (q_load_rptr_agg rfl rfl rfl) rfl <| AM.qv (n_build rfl rfl rfl rfl rfl) rfl <| AM.buildSliceL (xs := ([(⟨v38, v48⟩ : PropS)]).map PropS.av) rfl rfl rfl rfl rfl rfl <| AM.nil <| AT.nilN (fun _ => rfl) fun β => bndE h fun l49 e16 h => t_append (g := PropS.av) rfl rfl rfl rfl rfl rfl rfl rfl (.list _) e16 (fun _ => .p4) rfl fun b50 => rF rfl rfl rfl <| n_store_ptr rfl rfl rfl rfl .p2 rfl rfl <| rN <| ATodo.stop <| ImpX.lq [0, 0, 0, 0, 0] ⟨b50, v47.2.L, v47.2.at_, l49, h, rfl⟩ rfl rfl
            · exact have h := iteFb hc h; tK <| ATodo.stop <| ImpX.lq [0, 0, 0, 0, 0] ⟨b34, v39.2.L, v39.2.at_, l35, h, rfl⟩ rfl rfl
          · rintro σ' ⟨b42, l40, n41, l43, h, rfl⟩
            unfold Stream_Item_j2 at h
            refine ATodo.blk <| tR <| ARun.qv (q_addw rfl rfl) rfl <| rM rfl rfl <| rN <| ATodo.stop <| ?_
            obtain rfl := Option.some.inj h
            exact hJ2 _ _ rfl <| ImpX.lq [0, 0, 0, 0, 0] ⟨b42, rfl⟩ rfl rfl
        · refine have h := iteF hc h; ATodo.exit rfl <| have h := outL h hA2; ?_
          unfold Stream_Item_k7 at h
          refine tS <| tSR <| rM rfl rfl <| bndE h fun v51 e17 h => t_call0 rfl (Stream_Flip_c e17) (CoL.refl _) (.cons .p0 .nil) rfl rfl <| rN <| ATodo.cut (fun σ' => ∃ (b57 : Bk) (b59 : Bk) (l52 : List Int) (n53 : Int) (q54 : Str) (q55 : Str) (n56 : Int) (l58 : List Pair) (l60 : List PropS), Stream_Item_j3 v2 v4 l52 n53 q54 q55 n56 l58 l60 = some r ∧ σ' = ⟨131, [(4, .ptr b1 0), (5, .ptr b6 0)], [(b_0, .cells [.list 1 (l52.map I), I n53]), (b1, .cells [.str [], .str [], .str [], I (0 : Int), I (0 : Int), I (0 : Int), .nil, .nil]), (b6, .cells [.str q54, .str v2.1, .str q55, I v4.1, I n56, I (0 : Int), .sl 2 b57 0 l58.length, .sl 5 b59 0 l60.length]), (b57, .arr 2 (l58.map Pair.av)), (b59, .arr 5 (l60.map PropS.av))]⟩) ?_ ?_
          · refine ATodo.cond rfl (fun hc => ?_) (fun hc => ?_)
            · refine have h := iteT hc h; tSR <| rM rfl rfl <| bndE h fun v61 e18 h => t_call0 rfl (Stream_Next_c e18) (CoL.refl _) (.cons .p0 .nil) rfl rfl <| rN <| ATodo.block <| tSR <| ARun.qv (q_eql rfl rfl) rfl <| rA rfl rfl <| rN <| ATodo.cut (fun σ' => ∃ (b67 : Bk) (b69 : Bk) (l62 : List Int) (n63 : Int) (q64 : Str) (q65 : Str) (n66 : Int) (l68 : List Pair) (l70 : List PropS), Stream_Item_j4 v2 v4 l62 n63 q64 q65 n66 l68 l70 = some r ∧ σ' = ⟨131, [(4, .ptr b1 0), (5, .ptr b6 0)], [(b_0, .cells [.list 1 (l62.map I), I n63]), (b1, .cells [.str [], .str [], .str [], I (0 : Int), I (0 : Int), I (0 : Int), .nil, .nil]), (b6, .cells [.str q64, .str v2.1, .str q65, I v4.1, I n66, I (0 : Int), .sl 2 b67 0 l68.length, .sl 5 b69 0 l70.length]), (b67, .arr 2 (l68.map Pair.av)), (b69, .arr 5 (l70.map PropS.av))]⟩) ?_ ?_
              · refine ATodo.cond_d rfl (fun hc => ?_) (fun hc => ?_)
                · exact have h := iteT hc h; tR <| rM rfl rfl <| n_buildSliceL (xs := ([([] : Str), ([65] : Str)]).map AV.str) rfl rfl rfl rfl rfl rfl <| bndE h fun v71 e19 h => t_call0 rfl (Stream_Some_c e19) (CoL.refl _) (.cons .p0 .nil) rfl rfl <| rM rfl rfl <| n_buildSliceL (xs := ([([] : Str), ([65] : Str)]).map AV.str) rfl rfl rfl rfl rfl rfl <| bndE h fun v72 e20 h => t_call0 rfl (Stream_Some_c e20) (CoL.refl _) (.cons .p0 .nil) rfl rfl <| rF rfl rfl rfl <| rF rfl rfl rfl <| n_store_ptr rfl rfl rfl rfl .p2 rfl rfl <| rF rfl rfl rfl <| rF rfl rfl rfl <| n_store_ptr rfl rfl rfl rfl .p2 rfl rfl <| rN <| ATodo.stop <| ImpX.lq [0, 0, 0, 0, 0] ⟨b14, b34, v72.2.L, v72.2.at_, v71.1, v72.1, v5.1, l15, l35, h, rfl⟩ rfl rfl
                · refine have h := iteF hc h; tSR <| ARun.qv (q_eql rfl rfl) rfl <| rA rfl rfl <| rN <| ATodo.cut (fun σ' => ∃ (b76 : Bk) (b78 : Bk) (l73 : List Int) (n74 : Int) (n75 : Int) (l77 : List Pair) (l79 : List PropS), Stream_Item_j5 p1x0 v2 v3 v4 l73 n74 n75 l77 l79 = some r ∧ σ' = ⟨131, [(4, .ptr b1 0), (5, .ptr b6 0)], [(b_0, .cells [.list 1 (l73.map I), I n74]), (b1, .cells [.str [], .str [], .str [], I (0 : Int), I (0 : Int), I (0 : Int), .nil, .nil]), (b6, .cells [.str p1x0, .str v2.1, .str v3.1, I v4.1, I n75, I (0 : Int), .sl 2 b76 0 l77.length, .sl 5 b78 0 l79.length]), (b76, .arr 2 (l77.map Pair.av)), (b78, .arr 5 (l79.map PropS.av))]⟩) ?_ ?_
                  · refine ATodo.cond_d rfl (fun hc => ?_) (fun hc => ?_)
                    · exact have h := iteT hc h; tR <| rM rfl rfl <| bndE h fun v80 e21 h => t_call0 rfl (Stream_Odd_c e21) (CoL.refl _) (.cons .p0 .nil) rfl rfl <| rF rfl rfl rfl <| rF rfl rfl rfl <| rF rfl rfl rfl <| n_store_ptr rfl rfl rfl rfl .p2 rfl rfl <| rN <| ATodo.stop <| ImpX.lq [0, 0, 0, 0, 0] ⟨b14, b34, v80.2.L, v80.2.at_, v80.1, l15, l35, h, rfl⟩ rfl rfl
                    · refine have h := iteF hc h; tSR <| ARun.qv (q_eql rfl rfl) rfl <| rA rfl rfl <| rN <| ATodo.cut (fun σ' => ∃ (b83 : Bk) (b85 : Bk) (l81 : List Int) (n82 : Int) (l84 : List Pair) (l86 : List PropS), Stream_Item_j6 p1x0 v2 v3 v4 v5 l81 n82 l84 l86 = some r ∧ σ' = ⟨131, [(4, .ptr b1 0), (5, .ptr b6 0)], [(b_0, .cells [.list 1 (l81.map I), I n82]), (b1, .cells [.str [], .str [], .str [], I (0 : Int), I (0 : Int), I (0 : Int), .nil, .nil]), (b6, .cells [.str p1x0, .str v2.1, .str v3.1, I v4.1, I v5.1, I (0 : Int), .sl 2 b83 0 l84.length, .sl 5 b85 0 l86.length]), (b83, .arr 2 (l84.map Pair.av)), (b85, .arr 5 (l86.map PropS.av))]⟩) ?_ ?_
                      · refine ATodo.cond_d rfl (fun hc => ?_) (fun hc => ?_)
                        · refine have h := iteT hc h; bndE h fun v87 e22 h => bndE h fun v88 e23 h => ATodo.regionT (id := 22) (A := [0, 1, 3, 0, 0, 24, 0, 0, 248, 504, 1016, 2047, 4095, 8191, 16383]) (H0 := [(b_0, .cells [.list 1 (v61.2.L.map I), I v61.2.at_])]) (HH := fun β => [(b_0, .cells [.list 1 (v88.2.L.map I), I v88.2.at_]), (b1, .cells [.str [], .str [], .str [], I (0 : Int), I (0 : Int), I (0 : Int), .nil, .nil]), (b6, .cells [.str p1x0, .str v2.1, .str v3.1, I v4.1, I v5.1, I (0 : Int), .sl 2 b14 0 l15.length, .sl 5 b34 0 l35.length]), (b14, .arr 2 (l15.map Pair.av)), (b34, .arr 5 (l35.map PropS.av))]) 11 mixed rfl (by kernel_rfl) (by kernel_rfl) [⟨none, some 5, [], fun _ => (b_0, .cells [.list 1 (v61.2.L.map I), I v61.2.at_]), none⟩, ⟨some 5, some 8, [], fun _ => (b_0, .cells [.list 1 (v87.2.L.map I), I v87.2.at_]), none⟩, ⟨some 8, none, [], fun _ => (b_0, .cells [.list 1 (v88.2.L.map I), I v88.2.at_]), none⟩] [] rfl (by kernel_rfl) rfl (.cons .p0 .nil) (fun _ => rfl) <| AT.am 5 rfl rfl <| AM.qv (n_field_ptr rfl rfl) rfl <| AM.qv (n_field_ptr rfl rfl) rfl <| AM.qv (q_load_ptr rfl rfl .p1 rfl) rfl <| AM.qv (q_move rfl) rfl <| AM.buildSliceL (xs := ([([115, 105, 116, 101] : Str), ([65] : Str), ([122] : Str)]).map AV.str) rfl rfl rfl rfl rfl rfl <| AM.nil <| AT.runS (av := .str v87.1) (Ti := [(b_0, .cells [.list 1 (v61.2.L.map I), I v61.2.at_])]) (Pi := [(b_0, .cells [.list 1 (v87.2.L.map I), I v87.2.at_])]) (fun _ => rfl) (fun _ => rfl) (fun _ => rfl) rfl rfl rfl ?_ ?_
                          · exact t_call0 rfl (Stream_Some_c e22) (CoL.refl _) (.cons .p0 .nil) rfl rfl <| ARun.nil ⟨_, rfl, rfl⟩
                          refine AT.am 2 rfl rfl <| AM.qv (q_move rfl) rfl <| AM.buildSliceL (xs := ([([] : Str), ([32, 120] : Str), ([118] : Str)]).map AV.str) rfl rfl rfl rfl rfl rfl <| AM.nil <| AT.runS (av := .str v88.1) (Ti := [(b_0, .cells [.list 1 (v87.2.L.map I), I v87.2.at_])]) (Pi := [(b_0, .cells [.list 1 (v88.2.L.map I), I v88.2.at_])]) (fun _ => rfl) (fun _ => rfl) (fun _ => rfl) rfl rfl rfl ?_ ?_
                          · exact t_call0 rfl (Stream_Some_c e23) (CoL.refl _) (.cons .p0 .nil) rfl rfl <| ARun.nil ⟨_, rfl, rfl⟩
                          exact AT.am 2 rfl rfl <| AM.qv (n_build rfl rfl rfl rfl rfl) rfl <| AM.buildSliceL (xs := ([(⟨v87.1, v88.1⟩ : Pair)]).map Pair.av) rfl rfl rfl rfl rfl rfl <| AM.nil <| AT.nilN (fun _ => rfl) fun β => bndE h fun l89 e24 h => t_append (g := Pair.av) rfl rfl rfl rfl rfl rfl rfl rfl (.list _) e24 (fun _ => .p3) rfl fun b90 => rF rfl rfl rfl <| rF rfl rfl rfl <| n_store_ptr rfl rfl rfl rfl .p2 rfl rfl <| rN <| ATodo.stop <| ImpX.lq [0, 0, 0, 0, 0] ⟨b90, b34, v88.2.L, v88.2.at_, l89, l35, h, rfl⟩ rfl rfl
                        · refine have h := iteF hc h; bndE h fun v91 e25 h => bndE h fun v92 e26 h => ATodo.regionT (id := 16) (A := [0, 1, 0, 0, 12, 0, 60, 124, 252, 508, 1023, 2047, 4095]) (H0 := [(b_0, .cells [.list 1 (v61.2.L.map I), I v61.2.at_])]) (HH := fun β => [(b_0, .cells [.list 1 (v92.2.L.map I), I v92.2.at_]), (b1, .cells [.str [], .str [], .str [], I (0 : Int), I (0 : Int), I (0 : Int), .nil, .nil]), (b6, .cells [.str p1x0, .str v2.1, .str v3.1, I v4.1, I v5.1, I (0 : Int), .sl 2 b14 0 l15.length, .sl 5 b34 0 l35.length]), (b14, .arr 2 (l15.map Pair.av)), (b34, .arr 5 (l35.map PropS.av))]) 10 mixed rfl (by kernel_rfl) (by kernel_rfl) [⟨none, some 4, [], fun _ => (b_0, .cells [.list 1 (v61.2.L.map I), I v61.2.at_]), none⟩, ⟨some 4, some 6, [], fun _ => (b_0, .cells [.list 1 (v91.2.L.map I), I v91.2.at_]), none⟩, ⟨some 6, none, [], fun _ => (b_0, .cells [.list 1 (v92.2.L.map I), I v92.2.at_]), none⟩] [] rfl (by kernel_rfl) rfl (.cons .p0 .nil) (fun _ => rfl) <| AT.am 4 rfl rfl <| AM.qv (n_field_ptr rfl rfl) rfl <| AM.qv (q_load_ptr rfl rfl .p1 rfl) rfl <| AM.qv (q_move rfl) rfl <| AM.buildSliceL (xs := ([([102, 97, 110, 46, 111, 110] : Str), ([65] : Str), ([122] : Str)]).map AV.str) rfl rfl rfl rfl rfl rfl <| AM.nil <| AT.runS (av := .str v91.1) (Ti := [(b_0, .cells [.list 1 (v61.2.L.map I), I v61.2.at_])]) (Pi := [(b_0, .cells [.list 1 (v91.2.L.map I), I v91.2.at_])]) (fun _ => rfl) (fun _ => rfl) (fun _ => rfl) rfl rfl rfl ?_ ?_
                          · exact t_call0 rfl (Stream_Some_c e25) (CoL.refl _) (.cons .p0 .nil) rfl rfl <| ARun.nil ⟨_, rfl, rfl⟩
                          refine AT.am 1 rfl rfl <| AM.qv (q_move rfl) rfl <| AM.nil <| AT.runS (av := I v92.1) (Ti := [(b_0, .cells [.list 1 (v91.2.L.map I), I v91.2.at_])]) (Pi := [(b_0, .cells [.list 1 (v92.2.L.map I), I v92.2.at_])]) (fun _ => rfl) (fun _ => rfl) (fun _ => rfl) rfl rfl rfl ?_ ?_
                          · exact t_call0 rfl (Stream_Odd_c e26) (CoL.refl _) (.cons .p0 .nil) rfl rfl <| ARun.nil ⟨_, rfl, rfl⟩
                          exact AT.am 3 rfl rfl <| AM.qv (n_build rfl rfl rfl rfl rfl) rfl <| AM.qv (n_build rfl rfl rfl rfl rfl) rfl <| AM.buildSliceL (xs := ([(⟨v91.1, (⟨v92.1, false, (0 : Int), []⟩ : ValueS)⟩ : PropS)]).map PropS.av) rfl rfl rfl rfl rfl rfl <| AM.nil <| AT.nilN (fun _ => rfl) fun β => bndE h fun l93 e27 h => t_append (g := PropS.av) rfl rfl rfl rfl rfl rfl rfl rfl (.list _) e27 (fun _ => .p4) rfl fun b94 => rF rfl rfl rfl <| n_store_ptr rfl rfl rfl rfl .p2 rfl rfl <| rN <| ATodo.stop <| ImpX.lq [0, 0, 0, 0, 0] ⟨b14, b94, v92.2.L, v92.2.at_, l15, l93, h, rfl⟩ rfl rfl
                      · rintro σ' ⟨b83, b85, l81, n82, l84, l86, h, rfl⟩
                        unfold Stream_Item_j6 at h
                        exact ATodo.stop <| ImpX.lq [0, 0, 0, 0, 0] ⟨b83, b85, l81, n82, v5.1, l84, l86, h, rfl⟩ rfl rfl
                  · rintro σ' ⟨b76, b78, l73, n74, n75, l77, l79, h, rfl⟩
                    unfold Stream_Item_j5 at h
                    exact ATodo.stop <| ImpX.lq [0, 0, 0, 0, 0] ⟨b76, b78, l73, n74, p1x0, v3.1, n75, l77, l79, h, rfl⟩ rfl rfl
              · rintro σ' ⟨b67, b69, l62, n63, q64, q65, n66, l68, l70, h, rfl⟩
                unfold Stream_Item_j4 at h
                exact ATodo.blk <| ATodo.stop <| ImpX.lq [0, 0, 0, 0, 0] ⟨b67, b69, l62, n63, q64, q65, n66, l68, l70, h, rfl⟩ rfl rfl
            · exact have h := iteFb hc h; tK <| ATodo.stop <| ImpX.lq [0, 0, 0, 0, 0] ⟨b14, b34, v51.2.L, v51.2.at_, p1x0, v3.1, v5.1, l15, l35, h, rfl⟩ rfl rfl
          · rintro σ' ⟨b57, b59, l52, n53, q54, q55, n56, l58, l60, h, rfl⟩
            unfold Stream_Item_j3 at h
            refine tSR <| ARun.qv (q_load_ptr_all rfl rfl .p2 rfl) rfl <| n_store_ptr rfl rfl rfl rfl .p1 rfl rfl <| rN <| ATodo.ret <| ?_
            obtain rfl := Option.some.inj h
            exact ImpX.freeze .p3 <| ImpX.coBox (j := 6) .p1 rfl (Co.froT .p3) rfl rfl <| ImpX.freeze .p4 <| ImpX.coBox (j := 7) .p1 rfl (Co.froT .p4) rfl rfl <| ImpX.here ⟨_, .cons (.all _ _ _ _ _ _ rfl .p1 TUnder.h TInfo.h rfl rfl) .nil, _, .cons .p0 .nil, ⟨rfl, rfl⟩⟩

set_option maxHeartbeats 4000000 in
theorem Stream_ItemList_c [GI : GTab] {b_0 : Bk} {p0x0 : Fleetmake_Stream} {r : (List ItemS) × Fleetmake_Stream} (h : Stream_ItemList p0x0 = some r) : ACall Tryz.prog 45 [.ptr b_0 0] [(b_0, .cells [.list 1 (p0x0.L.map I), I p0x0.at_])] (T1 (fun d_0 => [(b_0, .cells [.list 1 (r.2.L.map I), I r.2.at_]), (d_0, .arr 8 (r.1.map ItemS.av))]) (fun d_0 => .sl 8 d_0 0 r.1.length)) := by
  unfold Stream_ItemList at h
  refine ACall.lessH ?_
  refine ACall.bodyN Tryz.func45 rfl Tryz.ntmps45 Tryz.results45 rfl rfl ?_
  refine tSR <| rA rfl rfl <| rN <| tSR <| rA rfl rfl <| rN <| tS <| tSR <| n_buildSliceL (xs := ([([100, 97] : Str), ([100, 98] : Str), ([100, 99] : Str), ([100, 100] : Str)]).map AV.str) rfl rfl rfl rfl rfl rfl <| ARun.qv (t_len rfl) rfl <| rM rfl rfl <| rN <| ATodo.block <| ATodo.loopI (fun x : (List Int) × Int × (List ItemS) × Int => Stream_ItemList_b1 x.1 x.2.1 x.2.2.1 x.2.2.2) (fun x σ' => ∃ (b8 : Bk), σ' = ⟨23, [(0, .ptr b_0 0), (3, .sl 8 b8 0 x.2.2.1.length), (6, .list 1 ([([100, 97] : Str), ([100, 98] : Str), ([100, 99] : Str), ([100, 100] : Str)].map AV.str)), (7, I ([([100, 97] : Str), ([100, 98] : Str), ([100, 99] : Str), ([100, 100] : Str)].length : Int)), (8, I x.2.2.2)], [(b_0, .cells [.list 1 (x.1.map I), I x.2.1]), (b8, .arr 8 (x.2.2.1.map ItemS.av))]⟩) h ?_ ?_
  · exact ImpX.arr (s := 3) 8 rfl fun b11 => ImpX.lq [1, 0] ⟨b11, rfl⟩ rfl rfl
  · intro x z1 σ' J1 hmk h hJ1 hA1
    obtain ⟨l6, n7, l9, n10⟩ := x
    obtain ⟨b8, rfl⟩ := hmk
    replace h : Stream_ItemList_b1 l6 n7 l9 n10 = some z1 := h
    unfold Stream_ItemList_b1 at h
    refine tSR <| ARun.qv (q_lss rfl rfl) rfl <| rN <| tS <| ATodo.cond_d rfl (fun hc => ?_) (fun hc => ?_)
    · refine have h := iteT hc h; tK <| tS <| ATodo.block <| tSR <| bndE h fun v12 e1 h => ARun.qv (t_index rfl rfl rfl e1 rfl rfl) rfl <| ARun.qv (q_load_rptr rfl rfl rfl) rfl <| rA rfl rfl <| rN <| tSR <| rM rfl rfl <| bndE h fun v13 e2 h => t_call0 rfl (Stream_Flip_c e2) (CoL.refl _) (.cons .p0 .nil) rfl rfl <| ARun.qv (q_not rfl) rfl <| rN <| ATodo.cut (fun σ' => ∃ (b16 : Bk) (l14 : List Int) (n15 : Int) (l17 : List ItemS), Stream_ItemList_j1 n10 l14 n15 l17 = some z1 ∧ σ' = ⟨23, [(0, .ptr b_0 0), (3, .sl 8 b16 0 l17.length), (6, .list 1 ([([100, 97] : Str), ([100, 98] : Str), ([100, 99] : Str), ([100, 100] : Str)].map AV.str)), (7, I ([([100, 97] : Str), ([100, 98] : Str), ([100, 99] : Str), ([100, 100] : Str)].length : Int)), (8, I n10)], [(b_0, .cells [.list 1 (l14.map I), I n15]), (b16, .arr 8 (l17.map ItemS.av))]⟩) ?_ ?_
      · refine ATodo.cond rfl (fun hc => ?_) (fun hc => ?_)
        · exact have h := iteT hc h; tR <| rM rfl rfl <| rM rfl rfl <| rM rfl rfl <| bndE h fun v18 e3 h => t_call0 rfl (Stream_Item_c e3) (CoL.refl _) (.cons .p0 .nil) rfl rfl <| n_buildSliceL (xs := ([v18.1] : List ItemS).map ItemS.av) rfl rfl rfl rfl rfl rfl <| bndE h fun l19 e4 h => t_append (g := ItemS.av) rfl rfl rfl rfl rfl rfl rfl rfl (.list _) e4 (fun _ => .p1) rfl fun b20 => rA rfl rfl <| rN <| ATodo.stop <| ImpX.lq [0, 0] ⟨b20, v18.2.L, v18.2.at_, l19, h, rfl⟩ rfl rfl
        · exact have h := iteFb hc h; tK <| ATodo.stop <| ImpX.lq [0, 0] ⟨b8, v13.2.L, v13.2.at_, l9, h, rfl⟩ rfl rfl
      · rintro σ' ⟨b16, l14, n15, l17, h, rfl⟩
        unfold Stream_ItemList_j1 at h
        refine ATodo.blk <| tR <| ARun.qv (q_addw rfl rfl) rfl <| rM rfl rfl <| rN <| ATodo.stop <| ?_
        obtain rfl := Option.some.inj h
        exact hJ1 _ _ rfl <| ImpX.lq [0, 0] ⟨b16, rfl⟩ rfl rfl
    · refine have h := iteF hc h; ATodo.exit rfl <| have h := outL h hA1; tSR <| rM rfl rfl <| rA rfl rfl <| rN <| ATodo.ret <| ?_
      obtain rfl := Option.some.inj h
      exact ImpX.here ⟨_, .cons (.tmp _ _ rfl) .nil, _, .cons .p0 (.cons .p0 .nil), ⟨b8, rfl, rfl⟩⟩

set_option maxHeartbeats 4000000 in
theorem item_Measure_bd_c [GI : GTab] {self : Query → Option (Int × Int)} (self_h : ∀ {p0x0 : Query} {r : Int × Int}, self p0x0 = some r → Pu Tryz.prog 211 [.agg [I p0x0.Kind, .str p0x0.Field, .str p0x0.Op, I p0x0.Value.Kind, .bool p0x0.Value.Flag, I p0x0.Value.Number, .str p0x0.Value.Words, I p0x0.Version.Major, I p0x0.Version.Minor, I p0x0.Version.Patch, .list 11 (p0x0.Kids.map Query.av)]] (.tup [I r.1, I r.2])) {p0x0 : Query} {r : Int × Int} (h : item_Measure_bd self p0x0 = some r) : Pu Tryz.prog 211 [.agg [I p0x0.Kind, .str p0x0.Field, .str p0x0.Op, I p0x0.Value.Kind, .bool p0x0.Value.Flag, I p0x0.Value.Number, .str p0x0.Value.Words, I p0x0.Version.Major, I p0x0.Version.Minor, I p0x0.Version.Patch, .list 11 (p0x0.Kids.map Query.av)]] (.tup [I r.1, I r.2]) := by
  unfold item_Measure_bd at h
  refine ACall.bodyN Tryz.func211 rfl Tryz.ntmps211 Tryz.results211 rfl rfl ?_
  refine tSR <| n_box rfl rfl rfl rfl fun b1 => rA rfl rfl <| rA rfl rfl <| rN <| tS <| tS <| ATodo.cut (fun σ' => ∃ (c2 : Bool), item_Measure_j1 self p0x0 c2 = some r ∧ σ' = ⟨38, [(1, .ptr b1 0), (2, I (0 : Int)), (3, I (0 : Int)), (15, .bool c2)], [(b1, .cells [I p0x0.Kind, .str p0x0.Field, .str p0x0.Op, I p0x0.Value.Kind, .bool p0x0.Value.Flag, I p0x0.Value.Number, .str p0x0.Value.Words, I p0x0.Version.Major, I p0x0.Version.Minor, I p0x0.Version.Patch, .list 11 (p0x0.Kids.map Query.av)])]⟩) ?_ ?_
  · refine tR <| rF rfl rfl rfl <| rL rfl rfl .p0 rfl rfl <| ARun.qv (q_eql rfl rfl) rfl <| rM rfl rfl <| ARun.guard_df rfl rfl rfl (fun hc => ?_) (fun hc => ?_)
    · rw [orFd hc] at h
      exact rF rfl rfl rfl <| rY rfl rfl rfl <| rL rfl rfl .p0 rfl rfl <| rY rfl rfl rfl <| ARun.qv (q_eql rfl rfl) rfl <| rE rfl rfl rfl <| rN <| ATodo.stop <| ImpX.lq [0] ⟨decide (p0x0.Kind = (2 : Int)), h, rfl⟩ rfl rfl
    · rw [orTd hc] at h
      exact rG rfl rfl rfl rfl <| rG rfl rfl rfl rfl <| rT rfl rfl rfl <| rN <| ATodo.stop <| ImpX.lq [0] ⟨true, h, rfl⟩ rfl rfl
  · rintro σ' ⟨c2, h, rfl⟩
    unfold item_Measure_j1 at h
    refine ATodo.cut (fun σ' => ∃ (n3 : Int), item_Measure_j2 self p0x0 n3 = some r ∧ σ' = ⟨38, [(1, .ptr b1 0), (2, I n3), (3, I (0 : Int))], [(b1, .cells [I p0x0.Kind, .str p0x0.Field, .str p0x0.Op, I p0x0.Value.Kind, .bool p0x0.Value.Flag, I p0x0.Value.Number, .str p0x0.Value.Words, I p0x0.Version.Major, I p0x0.Version.Minor, I p0x0.Version.Patch, .list 11 (p0x0.Kids.map Query.av)])]⟩) ?_ ?_
    · refine ATodo.cond rfl (fun hc => ?_) (fun hc => ?_)
      · exact have h := iteT hc h; tR <| rA rfl rfl <| rN <| ATodo.stop <| ImpX.lq [0] ⟨(1 : Int), h, rfl⟩ rfl rfl
      · exact have h := iteFb hc h; tK <| ATodo.stop <| ImpX.lq [0] ⟨(0 : Int), h, rfl⟩ rfl rfl
    · rintro σ' ⟨n3, h, rfl⟩
      unfold item_Measure_j2 at h
      refine tS <| tSR <| rF rfl rfl rfl <| rL rfl rfl .p0 rfl rfl <| ARun.qv (t_len rfl) rfl <| rM rfl rfl <| rN <| ATodo.block <| ATodo.loopI (fun x : Int × Int × Int => item_Measure_b1 self p0x0 x.1 x.2.1 x.2.2) (fun x σ' => σ' = ⟨38, [(2, I x.1), (3, I x.2.1), (17, .list 11 (p0x0.Kids.map Query.av)), (18, I (p0x0.Kids.length : Int)), (19, I x.2.2)], []⟩) h ?_ ?_
      · exact ImpX.lq [] rfl rfl rfl
      · intro x z1 σ' J1 hmk h hJ1 hA1
        obtain ⟨n7, n8, n9⟩ := x
        obtain rfl := hmk
        replace h : item_Measure_b1 self p0x0 n7 n8 n9 = some z1 := h
        unfold item_Measure_b1 at h
        refine tSR <| ARun.qv (q_lss rfl rfl) rfl <| rN <| tS <| ATodo.cond_d rfl (fun hc => ?_) (fun hc => ?_)
        · refine have h := iteT hc h; tK <| tS <| ATodo.block <| tSR <| bndE h fun v10 e1 h => ARun.qv (t_index rfl rfl rfl e1 rfl (by rw [Query.av_eq]; rfl)) rfl <| ARun.qv (q_load_rptr_agg rfl rfl rfl) rfl <| n_alloc rfl rfl rfl rfl fun b11 => n_store_ptr rfl rfl rfl rfl .p0 rfl rfl <| rN <| tSR <| ARun.qv (q_load_ptr_all rfl rfl .p0 rfl) rfl <| bndE h fun v12 e2 h => r_callp rfl (self_h e2) (CoL.refl _) rfl <| rM rfl rfl <| rX rfl rfl rfl <| rX rfl rfl rfl <| rA rfl rfl <| rA rfl rfl <| rN <| tR <| rM rfl rfl <| rM rfl rfl <| ARun.qv (q_addw rfl rfl) rfl <| rM rfl rfl <| rM rfl rfl <| ARun.qv (q_max rfl rfl) rfl <| rA rfl rfl <| rA rfl rfl <| rN <| ATodo.blk <| tR <| ARun.qv (q_addw rfl rfl) rfl <| rM rfl rfl <| rN <| ATodo.stop <| ?_
          obtain rfl := Option.some.inj h
          exact hJ1 _ _ rfl <| ImpX.lq [] rfl rfl rfl
        · refine have h := iteF hc h; ATodo.exit rfl <| have h := outL h hA1; tSR <| rM rfl rfl <| rM rfl rfl <| ARun.qv (q_addw rfl rfl) rfl <| rA rfl rfl <| rA rfl rfl <| rN <| ATodo.ret <| ?_
          obtain rfl := Option.some.inj h
          exact ImpX.here ⟨_, .cons (.tmp _ _ rfl) (.cons (.tmp _ _ rfl) .nil), rfl⟩
theorem item_Measure_r_c [GI : GTab] : ∀ (k : Nat) {p0x0 : Query} {r : Int × Int}, item_Measure_r k p0x0 = some r → Pu Tryz.prog 211 [.agg [I p0x0.Kind, .str p0x0.Field, .str p0x0.Op, I p0x0.Value.Kind, .bool p0x0.Value.Flag, I p0x0.Value.Number, .str p0x0.Value.Words, I p0x0.Version.Major, I p0x0.Version.Minor, I p0x0.Version.Patch, .list 11 (p0x0.Kids.map Query.av)]] (.tup [I r.1, I r.2]) := by
  intro k
  induction k with
  | zero => intro p0x0 r h; cases h
  | succ k ih => intro p0x0 r h; exact item_Measure_bd_c ih h
theorem item_Measure_c [GI : GTab] {p0x0 : Query} {r : Int × Int} (h : item_Measure p0x0 = some r) : Pu Tryz.prog 211 [.agg [I p0x0.Kind, .str p0x0.Field, .str p0x0.Op, I p0x0.Value.Kind, .bool p0x0.Value.Flag, I p0x0.Value.Number, .str p0x0.Value.Words, I p0x0.Version.Major, I p0x0.Version.Minor, I p0x0.Version.Patch, .list 11 (p0x0.Kids.map Query.av)]] (.tup [I r.1, I r.2]) := item_Measure_r_c depth h

set_option maxHeartbeats 4000000 in
theorem base_Out_c [GI : GTab] {p0x0 : Int} {p1x0 : Int} {p2x0 : Int} {r : Bool} (h : base_Out p0x0 p1x0 p2x0 = r) : Pu Tryz.prog 188 [I p0x0, I p1x0, I p2x0] (.bool r) := by
  unfold base_Out at h
  refine ACall.bodyN Tryz.func188 rfl Tryz.ntmps188 Tryz.results188 rfl rfl ?_
  refine tSR <| rA rfl rfl <| rN <| tS <| ATodo.cut (fun σ' => ∃ (c1 : Bool), base_Out_j1 c1 = r ∧ σ' = ⟨15, [(6, .bool c1)], []⟩) ?_ ?_
  · refine tR <| rM rfl rfl <| rM rfl rfl <| ARun.qv (q_lss rfl rfl) rfl <| rM rfl rfl <| ARun.guard_df rfl rfl rfl (fun hc => ?_) (fun hc => ?_)
    · rw [orFd hc] at h
      exact rM rfl rfl <| rY rfl rfl rfl <| rM rfl rfl <| rY rfl rfl rfl <| ARun.qv (q_gtr rfl rfl) rfl <| rE rfl rfl rfl <| rA rfl rfl <| rN <| ATodo.stop <| ImpX.lq [] ⟨decide (p2x0 < p0x0), h, rfl⟩ rfl rfl
    · rw [orTd hc] at h
      exact rG rfl rfl rfl rfl <| rG rfl rfl rfl rfl <| rT rfl rfl rfl <| rA rfl rfl <| rN <| ATodo.stop <| ImpX.lq [] ⟨true, h, rfl⟩ rfl rfl
  · rintro σ' ⟨c1, h, rfl⟩
    unfold base_Out_j1 at h
    refine ATodo.ret <| ?_
    obtain rfl := h
    exact ImpX.here ⟨_, .cons (.tmp _ _ rfl) .nil, rfl⟩

set_option maxHeartbeats 4000000 in
theorem item_formFault_1x_c [GI : GTab] {p0x0 : Query} {p1x0 : Query} {r : Bool} (h : item_formFault_1x p0x0 p1x0 = r) : Pu Tryz.prog 258 [.agg [I p0x0.Kind, .str p0x0.Field, .str p0x0.Op, I p0x0.Value.Kind, .bool p0x0.Value.Flag, I p0x0.Value.Number, .str p0x0.Value.Words, I p0x0.Version.Major, I p0x0.Version.Minor, I p0x0.Version.Patch, .list 11 (p0x0.Kids.map Query.av)], .rptr [I p1x0.Kind, .str p1x0.Field, .str p1x0.Op, I p1x0.Value.Kind, .bool p1x0.Value.Flag, I p1x0.Value.Number, .str p1x0.Value.Words, I p1x0.Version.Major, I p1x0.Version.Minor, I p1x0.Version.Patch, .list 11 (p1x0.Kids.map Query.av)]] (.bool r) := by
  unfold item_formFault_1x at h
  refine ACall.bodyN Tryz.func258 rfl Tryz.ntmps258 Tryz.results258 rfl rfl ?_
  refine tSR <| n_box rfl rfl rfl rfl fun b1 => rA rfl rfl <| rN <| tSR <| rF rfl rfl rfl <| rL rfl rfl .p0 rfl rfl <| ARun.qv (n_field_rptr rfl rfl) rfl <| ARun.qv (q_load_rptr rfl rfl rfl) rfl <| ARun.qv (q_eql rfl rfl) rfl <| rA rfl rfl <| rN <| ATodo.ret <| ?_
  obtain rfl := h
  exact ImpX.here ⟨_, .cons (.tmp _ _ rfl) .nil, rfl⟩

set_option maxHeartbeats 4000000 in
theorem slices_IndexFunc_Query_Query_c [GI : GTab] {p0x0 : List Query} {fnb : Query → Option Bool} {fnb_F : FuncId} [IsFn Tryz.prog fnb_F] {fnb_C : List AV} (fnb_h : ∀ {y0 : _} {u : Bool}, fnb y0 = some u → Pu Tryz.prog fnb_F (.agg [I y0.Kind, .str y0.Field, .str y0.Op, I y0.Value.Kind, .bool y0.Value.Flag, I y0.Value.Number, .str y0.Value.Words, I y0.Version.Major, I y0.Version.Minor, I y0.Version.Patch, .list 11 (y0.Kids.map Query.av)] ::  fnb_C) (.bool u)) {r : Int} (h : slices_IndexFunc_Query_Query p0x0 fnb = some r) : Pu Tryz.prog 184 [.list 11 (p0x0.map Query.av), .func (.func fnb_F) fnb_C] (I r) := by
  unfold slices_IndexFunc_Query_Query at h
  refine ACall.bodyN Tryz.func184 rfl Tryz.ntmps184 Tryz.results184 rfl rfl ?_
  refine tSR <| rA rfl rfl <| rN <| tS <| tSR <| rM rfl rfl <| ARun.qv (t_len rfl) rfl <| rM rfl rfl <| rN <| ATodo.block <| ATodo.loopI (fun x : Int => slices_IndexFunc_Query_Query_b1 p0x0 fnb x) (fun x σ' => σ' = ⟨19, [(0, .list 11 (p0x0.map Query.av)), (1, .func (.func fnb_F) fnb_C), (7, I (p0x0.length : Int)), (8, I x)], []⟩) h ?_ ?_
  · exact ImpX.lq [] rfl rfl rfl
  · intro n2 z1 σ' J1 hmk h hJ1 hA1
    obtain rfl := hmk
    replace h : slices_IndexFunc_Query_Query_b1 p0x0 fnb n2 = some z1 := h
    unfold slices_IndexFunc_Query_Query_b1 at h
    refine tSR <| ARun.qv (q_lss rfl rfl) rfl <| rN <| tS <| ATodo.cond_d rfl (fun hc => ?_) (fun hc => ?_)
    · refine have h := iteT hc h; tK <| tS <| ATodo.block <| tSR <| rM rfl rfl <| rA rfl rfl <| rN <| tSR <| rM rfl rfl <| rM rfl rfl <| rM rfl rfl <| bndE h fun v3 e1 h => ARun.qv (t_index rfl rfl rfl e1 rfl (by rw [Query.av_eq]; rfl)) rfl <| ARun.qv (q_load_rptr_agg rfl rfl rfl) rfl <| bndE h fun v4 e2 h => r_callvp rfl rfl (fnb_h e2) (CoL.refl _) rfl <| rN <| ATodo.cond rfl (fun hc => ?_) (fun hc => ?_)
      · refine have h := iteT hc h; tSR <| rM rfl rfl <| rA rfl rfl <| rN <| ATodo.ret <| have h := outL h hA1; ?_
        obtain rfl := Option.some.inj h
        exact ImpX.here ⟨_, .cons (.tmp _ _ rfl) .nil, rfl⟩
      · refine have h := iteFb hc h; tK <| ATodo.blk <| tR <| ARun.qv (q_addw rfl rfl) rfl <| rM rfl rfl <| rN <| ATodo.stop <| ?_
        obtain rfl := Option.some.inj h
        exact hJ1 _ _ rfl <| ImpX.lq [] rfl rfl rfl
    · refine have h := iteF hc h; ATodo.exit rfl <| have h := outL h hA1; tSR <| rA rfl rfl <| rN <| ATodo.ret <| ?_
      obtain rfl := Option.some.inj h
      exact ImpX.here ⟨_, .cons (.tmp _ _ rfl) .nil, rfl⟩

set_option maxHeartbeats 4000000 in
theorem slices_ContainsFunc_Query_Query_c [GI : GTab] {p0x0 : List Query} {fnb : Query → Option Bool} {fnb_F : FuncId} [IsFn Tryz.prog fnb_F] {fnb_C : List AV} (fnb_h : ∀ {y0 : _} {u : Bool}, fnb y0 = some u → Pu Tryz.prog fnb_F (.agg [I y0.Kind, .str y0.Field, .str y0.Op, I y0.Value.Kind, .bool y0.Value.Flag, I y0.Value.Number, .str y0.Value.Words, I y0.Version.Major, I y0.Version.Minor, I y0.Version.Patch, .list 11 (y0.Kids.map Query.av)] ::  fnb_C) (.bool u)) {r : Bool} (h : slices_ContainsFunc_Query_Query p0x0 fnb = some r) : Pu Tryz.prog 128 [.list 11 (p0x0.map Query.av), .func (.func fnb_F) fnb_C] (.bool r) := by
  unfold slices_ContainsFunc_Query_Query at h
  refine ACall.bodyN Tryz.func128 rfl Tryz.ntmps128 Tryz.results128 rfl rfl ?_
  refine tSR <| rA rfl rfl <| rN <| tSR <| rM rfl rfl <| rM rfl rfl <| bndE h fun v1 e1 h => r_callpB rfl (slices_IndexFunc_Query_Query_c fnb_h e1) (.cons (.co (.refl _)) (.cons (.co (.refl _)) .nil)) rfl rfl <| ARun.qv (q_geq rfl rfl) rfl <| rA rfl rfl <| rN <| ATodo.ret <| ?_
  obtain rfl := Option.some.inj h
  exact ImpX.here ⟨_, .cons (.tmp _ _ rfl) .nil, rfl⟩

set_option maxHeartbeats 4000000 in
theorem item_formFault_c [GI : GTab] {p0x0 : Query} {r : Int} (h : item_formFault p0x0 = some r) : Pu Tryz.prog 241 [.agg [I p0x0.Kind, .str p0x0.Field, .str p0x0.Op, I p0x0.Value.Kind, .bool p0x0.Value.Flag, I p0x0.Value.Number, .str p0x0.Value.Words, I p0x0.Version.Major, I p0x0.Version.Minor, I p0x0.Version.Patch, .list 11 (p0x0.Kids.map Query.av)]] (I r) := by
  unfold item_formFault at h
  refine ACall.bodyN Tryz.func241 rfl Tryz.ntmps241 Tryz.results241 rfl rfl ?_
  refine tSR <| n_box rfl rfl rfl rfl fun b1 => rA rfl rfl <| rN <| tS <| tSR <| rF rfl rfl rfl <| rL rfl rfl .p0 rfl rfl <| r_callp rfl (base_Out_c rfl) (CoL.refl _) rfl <| rN <| ATodo.cond rfl (fun hc => ?_) (fun hc => ?_)
  · refine have h := iteT hc h; tSR <| rA rfl rfl <| rN <| ATodo.ret <| ?_
    obtain rfl := Option.some.inj h
    exact ImpX.here ⟨_, .cons (.tmp _ _ rfl) .nil, rfl⟩
  · refine have h := iteFb hc h; tK <| tSR <| rF rfl rfl rfl <| rL rfl rfl .p0 rfl rfl <| ARun.qv (t_len rfl) rfl <| rA rfl rfl <| rN <| tSR <| rM rfl rfl <| ARun.qv (q_neq rfl rfl) rfl <| rA rfl rfl <| rN <| tSR <| rF rfl rfl rfl <| rL rfl rfl .p0 rfl rfl <| ARun.qv (n_build rfl rfl rfl rfl rfl) rfl <| n_alloc rfl rfl rfl rfl fun b2 => n_store_ptr rfl rfl rfl rfl .p0 rfl rfl <| rN <| tS <| tSR <| rF rfl rfl rfl <| rL rfl rfl .p1 rfl rfl <| rN <| ATodo.block <| tSR <| ARun.qv (q_eql rfl rfl) rfl <| rA rfl rfl <| rN <| ATodo.cut (fun σ' => ∃ (c3 : Bool) (q4 : Str) (q5 : Str) (n6 : Int) (c7 : Bool) (n8 : Int) (q9 : Str) (n10 : Int) (n11 : Int) (n12 : Int), item_formFault_j1 p0x0 c3 q4 q5 n6 c7 n8 q9 n10 n11 n12 = some r ∧ σ' = ⟨79, [(1, .ptr b1 0), (4, .bool c3), (5, .ptr b2 0)], [(b1, .cells [I p0x0.Kind, .str p0x0.Field, .str p0x0.Op, I p0x0.Value.Kind, .bool p0x0.Value.Flag, I p0x0.Value.Number, .str p0x0.Value.Words, I p0x0.Version.Major, I p0x0.Version.Minor, I p0x0.Version.Patch, .list 11 (p0x0.Kids.map Query.av)]), (b2, .cells [I p0x0.Kind, .str q4, .str q5, I n6, .bool c7, I n8, .str q9, I n10, I n11, I n12, .nil])]⟩) ?_ ?_
    · refine ATodo.cond_d rfl (fun hc => ?_) (fun hc => ?_)
      · refine have h := iteT hc h; ATodo.regionT (id := 9) (A := [0, 1, 0, 4, 0, 16, 0, 64, 3, 259, 783, 1807, 3903, 7999, 16383, 32767]) (H0 := [(b2, .cells [I p0x0.Kind, .str [], .str [], I (0 : Int), .bool false, I (0 : Int), .str [], I (0 : Int), I (0 : Int), I (0 : Int), .nil])]) (HH := fun β => [(b2, .cells [I p0x0.Kind, .str p0x0.Field, .str p0x0.Op, I p0x0.Value.Kind, .bool p0x0.Value.Flag, I p0x0.Value.Number, .str p0x0.Value.Words, I (0 : Int), I (0 : Int), I (0 : Int), .nil]), (b1, .cells [I p0x0.Kind, .str p0x0.Field, .str p0x0.Op, I p0x0.Value.Kind, .bool p0x0.Value.Flag, I p0x0.Value.Number, .str p0x0.Value.Words, I p0x0.Version.Major, I p0x0.Version.Minor, I p0x0.Version.Patch, .list 11 (p0x0.Kids.map Query.av)])]) 14 mixed rfl (by kernel_rfl) (by kernel_rfl) [⟨none, some 9, [], fun _ => (b2, .cells [I p0x0.Kind, .str [], .str [], I (0 : Int), .bool false, I (0 : Int), .str [], I (0 : Int), I (0 : Int), I (0 : Int), .nil]), none⟩, ⟨some 9, some 11, [], fun _ => (b2, .cells [I p0x0.Kind, .str p0x0.Field, .str [], I (0 : Int), .bool false, I (0 : Int), .str [], I (0 : Int), I (0 : Int), I (0 : Int), .nil]), none⟩, ⟨some 11, some 13, [], fun _ => (b2, .cells [I p0x0.Kind, .str p0x0.Field, .str p0x0.Op, I (0 : Int), .bool false, I (0 : Int), .str [], I (0 : Int), I (0 : Int), I (0 : Int), .nil]), none⟩, ⟨some 13, none, [], fun _ => (b2, .cells [I p0x0.Kind, .str p0x0.Field, .str p0x0.Op, I p0x0.Value.Kind, .bool p0x0.Value.Flag, I p0x0.Value.Number, .str p0x0.Value.Words, I (0 : Int), I (0 : Int), I (0 : Int), .nil]), none⟩] [] rfl (by kernel_rfl) rfl (.cons .p0 .nil) (fun _ => rfl) <| AT.am 9 rfl rfl <| AM.qv (n_field_ptr rfl rfl) rfl <| AM.qv (q_load_ptr rfl rfl .p0 rfl) rfl <| AM.qv (n_field_ptr rfl rfl) rfl <| AM.qv (q_load_ptr rfl rfl .p0 rfl) rfl <| AM.qv (n_field_ptr rfl rfl) rfl <| AM.qv (n_load_ptr_part rfl rfl .p0 rfl rfl) rfl <| AM.qv (n_field_ptr rfl rfl) rfl <| AM.qv (n_load_ptr_part rfl rfl .p0 rfl rfl) rfl <| AM.qv (n_field_ptr rfl rfl) rfl <| AM.nil <| AT.run0 (Ti := [(b2, .cells [I p0x0.Kind, .str [], .str [], I (0 : Int), .bool false, I (0 : Int), .str [], I (0 : Int), I (0 : Int), I (0 : Int), .nil])]) (Pi := [(b2, .cells [I p0x0.Kind, .str p0x0.Field, .str [], I (0 : Int), .bool false, I (0 : Int), .str [], I (0 : Int), I (0 : Int), I (0 : Int), .nil])]) (fun _ => rfl) (fun _ => rfl) (fun _ => rfl) rfl rfl ?_ ?_
        · exact n_store_ptr rfl rfl rfl rfl .p0 rfl rfl <| ARun.nil ⟨_, rfl⟩
        refine AT.am 1 rfl rfl <| AM.qv (n_field_ptr rfl rfl) rfl <| AM.nil <| AT.run0 (Ti := [(b2, .cells [I p0x0.Kind, .str p0x0.Field, .str [], I (0 : Int), .bool false, I (0 : Int), .str [], I (0 : Int), I (0 : Int), I (0 : Int), .nil])]) (Pi := [(b2, .cells [I p0x0.Kind, .str p0x0.Field, .str p0x0.Op, I (0 : Int), .bool false, I (0 : Int), .str [], I (0 : Int), I (0 : Int), I (0 : Int), .nil])]) (fun _ => rfl) (fun _ => rfl) (fun _ => rfl) rfl rfl ?_ ?_
        · exact n_store_ptr rfl rfl rfl rfl .p0 rfl rfl <| ARun.nil ⟨_, rfl⟩
        refine AT.am 1 rfl rfl <| AM.qv (n_field_ptr rfl rfl) rfl <| AM.nil <| AT.run0 (Ti := [(b2, .cells [I p0x0.Kind, .str p0x0.Field, .str p0x0.Op, I (0 : Int), .bool false, I (0 : Int), .str [], I (0 : Int), I (0 : Int), I (0 : Int), .nil])]) (Pi := [(b2, .cells [I p0x0.Kind, .str p0x0.Field, .str p0x0.Op, I p0x0.Value.Kind, .bool p0x0.Value.Flag, I p0x0.Value.Number, .str p0x0.Value.Words, I (0 : Int), I (0 : Int), I (0 : Int), .nil])]) (fun _ => rfl) (fun _ => rfl) (fun _ => rfl) rfl rfl ?_ ?_
        · exact n_store_ptr rfl rfl rfl rfl .p0 rfl rfl <| ARun.nil ⟨_, rfl⟩
        exact AT.nilN (fun _ => rfl) fun β => rF rfl rfl rfl <| n_store_ptr rfl rfl rfl rfl .p0 rfl rfl <| rN <| ATodo.stop <| ImpX.lq [1, 0] ⟨decide ((p0x0.Kids.length : Int) ≠ (0 : Int)), p0x0.Field, p0x0.Op, p0x0.Value.Kind, p0x0.Value.Flag, p0x0.Value.Number, p0x0.Value.Words, p0x0.Version.Major, p0x0.Version.Minor, p0x0.Version.Patch, h, rfl⟩ rfl rfl
      · refine have h := iteF hc h; tSR <| ARun.qv (q_eql rfl rfl) rfl <| rA rfl rfl <| rN <| ATodo.cut (fun σ' => ∃ (c13 : Bool) (q14 : Str), item_formFault_j2 p0x0 c13 q14 = some r ∧ σ' = ⟨79, [(1, .ptr b1 0), (4, .bool c13), (5, .ptr b2 0)], [(b1, .cells [I p0x0.Kind, .str p0x0.Field, .str p0x0.Op, I p0x0.Value.Kind, .bool p0x0.Value.Flag, I p0x0.Value.Number, .str p0x0.Value.Words, I p0x0.Version.Major, I p0x0.Version.Minor, I p0x0.Version.Patch, .list 11 (p0x0.Kids.map Query.av)]), (b2, .cells [I p0x0.Kind, .str q14, .str [], I (0 : Int), .bool false, I (0 : Int), .str [], I (0 : Int), I (0 : Int), I (0 : Int), .nil])]⟩) ?_ ?_
        · refine ATodo.cond_d rfl (fun hc => ?_) (fun hc => ?_)
          · exact have h := iteT hc h; tR <| rF rfl rfl rfl <| rL rfl rfl .p1 rfl rfl <| rF rfl rfl rfl <| n_store_ptr rfl rfl rfl rfl .p0 rfl rfl <| rN <| ATodo.stop <| ImpX.lq [1, 0] ⟨decide ((p0x0.Kids.length : Int) ≠ (0 : Int)), p0x0.Field, h, rfl⟩ rfl rfl
          · refine have h := iteF hc h; tSR <| ARun.qv (q_eql rfl rfl) rfl <| rA rfl rfl <| rN <| ATodo.cut (fun σ' => ∃ (c15 : Bool), item_formFault_j3 p0x0 c15 = some r ∧ σ' = ⟨79, [(1, .ptr b1 0), (4, .bool c15), (5, .ptr b2 0)], [(b1, .cells [I p0x0.Kind, .str p0x0.Field, .str p0x0.Op, I p0x0.Value.Kind, .bool p0x0.Value.Flag, I p0x0.Value.Number, .str p0x0.Value.Words, I p0x0.Version.Major, I p0x0.Version.Minor, I p0x0.Version.Patch, .list 11 (p0x0.Kids.map Query.av)]), (b2, .cells [I p0x0.Kind, .str [], .str [], I (0 : Int), .bool false, I (0 : Int), .str [], I (0 : Int), I (0 : Int), I (0 : Int), .nil])]⟩) ?_ ?_
            · refine ATodo.cond_d rfl (fun hc => ?_) (fun hc => ?_)
              · exact have h := iteT hc h; tR <| rM rfl rfl <| ARun.qv (q_neq rfl rfl) rfl <| rA rfl rfl <| rN <| ATodo.stop <| ImpX.lq [1, 0] ⟨decide ((p0x0.Kids.length : Int) ≠ (1 : Int)), h, rfl⟩ rfl rfl
              · refine have h := iteF hc h; ATodo.cut (fun σ' => ∃ (c16 : Bool), item_formFault_j4 p0x0 c16 = some r ∧ σ' = ⟨79, [(1, .ptr b1 0), (4, .bool c16), (5, .ptr b2 0)], [(b1, .cells [I p0x0.Kind, .str p0x0.Field, .str p0x0.Op, I p0x0.Value.Kind, .bool p0x0.Value.Flag, I p0x0.Value.Number, .str p0x0.Value.Words, I p0x0.Version.Major, I p0x0.Version.Minor, I p0x0.Version.Patch, .list 11 (p0x0.Kids.map Query.av)]), (b2, .cells [I p0x0.Kind, .str [], .str [], I (0 : Int), .bool false, I (0 : Int), .str [], I (0 : Int), I (0 : Int), I (0 : Int), .nil])]⟩) ?_ ?_
                · refine tR <| rM rfl rfl <| ARun.qv (q_lss rfl rfl) rfl <| rM rfl rfl <| ARun.guard_df rfl rfl rfl (fun hc => ?_) (fun hc => ?_)
                  · exact have h := iteF hc h; rF rfl rfl rfl <| rY rfl rfl rfl <| rL rfl rfl .p1 rfl rfl <| rY rfl rfl rfl <| ARun.qv (q_makeFunc rfl) rfl <| rY rfl rfl rfl <| bndE h fun v17 e1 h => r_callpB rfl (slices_ContainsFunc_Query_Query_c (fun e => item_formFault_1x_c (Option.some.inj e)) e1) (.cons (.co (.refl _)) (.cons (.funcL _ _ _ (.cons (.boxL _ _ _ .p1 (.cons (.co (.refl _)) (.cons (.co (.refl _)) (.cons (.co (.refl _)) (.cons (.co (.refl _)) (.cons (.co (.refl _)) (.cons (.co (.refl _)) (.cons (.co (.refl _)) (.cons (.co (.refl _)) (.cons (.co (.refl _)) (.cons (.co (.refl _)) (.cons (.co (.refl _)) .nil)))))))))))) .nil)) .nil)) rfl rfl <| rE rfl rfl rfl <| rA rfl rfl <| rN <| ATodo.stop <| ImpX.lq [1, 0] ⟨v17, h, rfl⟩ rfl rfl
                  · exact have h := iteT hc h; rG rfl rfl rfl rfl <| rG rfl rfl rfl rfl <| rG rfl rfl rfl rfl <| rT rfl rfl rfl <| rA rfl rfl <| rN <| ATodo.stop <| ImpX.lq [1, 0] ⟨true, h, rfl⟩ rfl rfl
                · rintro σ' ⟨c16, h, rfl⟩
                  unfold item_formFault_j4 at h
                  exact ATodo.stop <| ImpX.lq [0, 0] ⟨c16, h, rfl⟩ rfl rfl
            · rintro σ' ⟨c15, h, rfl⟩
              unfold item_formFault_j3 at h
              exact ATodo.stop <| ImpX.lq [0, 0] ⟨c15, [], h, rfl⟩ rfl rfl
        · rintro σ' ⟨c13, q14, h, rfl⟩
          unfold item_formFault_j2 at h
          exact ATodo.stop <| ImpX.lq [0, 0] ⟨c13, q14, [], (0 : Int), false, (0 : Int), [], (0 : Int), (0 : Int), (0 : Int), h, rfl⟩ rfl rfl
    · rintro σ' ⟨c3, q4, q5, n6, c7, n8, q9, n10, n11, n12, h, rfl⟩
      unfold item_formFault_j1 at h
      refine ATodo.blk <| tS <| tS <| ATodo.cut (fun σ' => ∃ (c18 : Bool), item_formFault_j5 c18 = some r ∧ σ' = ⟨79, [(78, .bool c18)], []⟩) ?_ ?_
      · refine tR <| rM rfl rfl <| rM rfl rfl <| ARun.guard rfl rfl rfl (fun hc => ?_) (fun hc => ?_)
        · rw [orFb hc] at h
          refine rF rfl rfl rfl <| rY rfl rfl rfl <| rL rfl rfl .p1 rfl rfl <| rY rfl rfl rfl <| rF rfl rfl rfl <| rY rfl rfl rfl <| rL rfl rfl .p0 rfl rfl <| rY rfl rfl rfl <| ARun.qv (q_sne rfl rfl) rfl <| rE rfl rfl rfl <| rM rfl rfl <| ARun.guard_df rfl rfl rfl (fun hc => ?_) (fun hc => ?_)
          · rw [orFd hc] at h
            refine rF rfl rfl rfl <| rY rfl rfl rfl <| rL rfl rfl .p1 rfl rfl <| rY rfl rfl rfl <| rF rfl rfl rfl <| rY rfl rfl rfl <| rL rfl rfl .p0 rfl rfl <| rY rfl rfl rfl <| ARun.qv (q_sne rfl rfl) rfl <| rE rfl rfl rfl <| rM rfl rfl <| ARun.guard_df rfl rfl rfl (fun hc => ?_) (fun hc => ?_)
            · rw [orFd hc] at h
              refine rF rfl rfl rfl <| rY rfl rfl rfl <| ARun.qv (n_load_ptr_part rfl rfl .p1 rfl rfl) rfl <| rY rfl rfl rfl <| rF rfl rfl rfl <| rY rfl rfl rfl <| ARun.qv (n_load_ptr_part rfl rfl .p0 rfl rfl) rfl <| rY rfl rfl rfl <| ARun.qv (t_tne (g := ValueS.av) (X := (⟨n6, c7, n8, q9⟩ : ValueS)) (Y := p0x0.Value) rfl rfl rfl rfl rfl) rfl <| rE rfl rfl rfl <| rM rfl rfl <| ARun.guard_df rfl rfl rfl (fun hc => ?_) (fun hc => ?_)
              · rw [orFd hc] at h
                exact rF rfl rfl rfl <| rY rfl rfl rfl <| ARun.qv (n_load_ptr_part rfl rfl .p1 rfl rfl) rfl <| rY rfl rfl rfl <| rF rfl rfl rfl <| rY rfl rfl rfl <| ARun.qv (n_load_ptr_part rfl rfl .p0 rfl rfl) rfl <| rY rfl rfl rfl <| ARun.qv (t_tne (g := Version.av) (X := (⟨n10, n11, n12⟩ : Version)) (Y := p0x0.Version) rfl rfl rfl rfl rfl) rfl <| rE rfl rfl rfl <| rN <| ATodo.stop <| ImpX.lq [] ⟨decide ((⟨n10, n11, n12⟩ : Version) ≠ p0x0.Version), h, rfl⟩ rfl rfl
              · rw [orTd hc] at h
                exact rG rfl rfl rfl rfl <| rG rfl rfl rfl rfl <| rG rfl rfl rfl rfl <| rG rfl rfl rfl rfl <| rT rfl rfl rfl <| rN <| ATodo.stop <| ImpX.lq [] ⟨true, h, rfl⟩ rfl rfl
            · rw [orTd hc] at h
              exact rG rfl rfl rfl rfl <| rG rfl rfl rfl rfl <| rG rfl rfl rfl rfl <| rG rfl rfl rfl rfl <| rT rfl rfl rfl <| rM rfl rfl <| rG rfl rfl rfl rfl <| rG rfl rfl rfl rfl <| rG rfl rfl rfl rfl <| rG rfl rfl rfl rfl <| rG rfl rfl rfl rfl <| rT rfl rfl rfl <| rN <| ATodo.stop <| ImpX.lq [] ⟨true, h, rfl⟩ rfl rfl
          · rw [orTd hc] at h
            exact rG rfl rfl rfl rfl <| rG rfl rfl rfl rfl <| rG rfl rfl rfl rfl <| rG rfl rfl rfl rfl <| rT rfl rfl rfl <| rM rfl rfl <| rG rfl rfl rfl rfl <| rG rfl rfl rfl rfl <| rG rfl rfl rfl rfl <| rG rfl rfl rfl rfl <| rG rfl rfl rfl rfl <| rT rfl rfl rfl <| rM rfl rfl <| rG rfl rfl rfl rfl <| rG rfl rfl rfl rfl <| rG rfl rfl rfl rfl <| rG rfl rfl rfl rfl <| rG rfl rfl rfl rfl <| rT rfl rfl rfl <| rN <| ATodo.stop <| ImpX.lq [] ⟨true, h, rfl⟩ rfl rfl
        · rw [orTb hc] at h
          exact rG rfl rfl rfl rfl <| rG rfl rfl rfl rfl <| rG rfl rfl rfl rfl <| rG rfl rfl rfl rfl <| rT rfl rfl rfl <| rM rfl rfl <| rG rfl rfl rfl rfl <| rG rfl rfl rfl rfl <| rG rfl rfl rfl rfl <| rG rfl rfl rfl rfl <| rG rfl rfl rfl rfl <| rT rfl rfl rfl <| rM rfl rfl <| rG rfl rfl rfl rfl <| rG rfl rfl rfl rfl <| rG rfl rfl rfl rfl <| rG rfl rfl rfl rfl <| rG rfl rfl rfl rfl <| rT rfl rfl rfl <| rM rfl rfl <| rG rfl rfl rfl rfl <| rG rfl rfl rfl rfl <| rG rfl rfl rfl rfl <| rG rfl rfl rfl rfl <| rG rfl rfl rfl rfl <| rT rfl rfl rfl <| rN <| ATodo.stop <| ImpX.lq [] ⟨true, h, rfl⟩ rfl rfl
      · rintro σ' ⟨c18, h, rfl⟩
        unfold item_formFault_j5 at h
        refine ATodo.cond rfl (fun hc => ?_) (fun hc => ?_)
        · refine have h := iteT hc h; tSR <| rA rfl rfl <| rN <| ATodo.ret <| ?_
          obtain rfl := Option.some.inj h
          exact ImpX.here ⟨_, .cons (.tmp _ _ rfl) .nil, rfl⟩
        · refine have h := iteFb hc h; tK <| tSR <| rA rfl rfl <| rN <| ATodo.ret <| ?_
          obtain rfl := Option.some.inj h
          exact ImpX.here ⟨_, .cons (.tmp _ _ rfl) .nil, rfl⟩

set_option maxHeartbeats 4000000 in
theorem internal_stringslite_HasPrefix_c [GI : GTab] {p0x0 : Str} {p1x0 : Str} {r : Bool} (h : internal_stringslite_HasPrefix p0x0 p1x0 = some r) : Pu Tryz.prog 197 [.str p0x0, .str p1x0] (.bool r) := by
  unfold internal_stringslite_HasPrefix at h
  refine ACall.bodyN Tryz.func197 rfl Tryz.ntmps197 Tryz.results197 rfl rfl ?_
  refine tSR <| rA rfl rfl <| rN <| tS <| ATodo.cut (fun σ' => ∃ (c1 : Bool), internal_stringslite_HasPrefix_j1 c1 = some r ∧ σ' = ⟨18, [(4, .bool c1)], []⟩) ?_ ?_
  · refine tR <| rM rfl rfl <| ARun.qv (q_len_str rfl) rfl <| rM rfl rfl <| ARun.qv (q_len_str rfl) rfl <| ARun.qv (q_geq rfl rfl) rfl <| rM rfl rfl <| ARun.guard_dt rfl rfl rfl (fun hc => ?_) (fun hc => ?_)
    · exact have h := iteT hc h; rM rfl rfl <| rY rfl rfl rfl <| rM rfl rfl <| rY rfl rfl rfl <| ARun.qv (q_len_str rfl) rfl <| rY rfl rfl rfl <| bndE h fun l2 e1 h => ARun.qv (t_slice_str rfl .none (.some _ _ _ rfl) rfl rfl e1) rfl <| rY rfl rfl rfl <| rM rfl rfl <| rY rfl rfl rfl <| ARun.qv (q_seq rfl rfl) rfl <| rT rfl rfl rfl <| rA rfl rfl <| rN <| ATodo.stop <| ImpX.lq [] ⟨decide (l2 = p1x0), h, rfl⟩ rfl rfl
    · exact have h := iteF hc h; rG rfl rfl rfl rfl <| rG rfl rfl rfl rfl <| rG rfl rfl rfl rfl <| rG rfl rfl rfl rfl <| rG rfl rfl rfl rfl <| rE rfl rfl rfl <| rA rfl rfl <| rN <| ATodo.stop <| ImpX.lq [] ⟨false, h, rfl⟩ rfl rfl
  · rintro σ' ⟨c1, h, rfl⟩
    unfold internal_stringslite_HasPrefix_j1 at h
    refine ATodo.ret <| ?_
    obtain rfl := Option.some.inj h
    exact ImpX.here ⟨_, .cons (.tmp _ _ rfl) .nil, rfl⟩

set_option maxHeartbeats 4000000 in
theorem internal_stringslite_CutPrefix_c [GI : GTab] {p0x0 : Str} {p1x0 : Str} {r : Str × Bool} (h : internal_stringslite_CutPrefix p0x0 p1x0 = some r) : Pu Tryz.prog 246 [.str p0x0, .str p1x0] (.tup [.str r.1, .bool r.2]) := by
  unfold internal_stringslite_CutPrefix at h
  refine ACall.bodyN Tryz.func246 rfl Tryz.ntmps246 Tryz.results246 rfl rfl ?_
  refine tSR <| rA rfl rfl <| rA rfl rfl <| rN <| tS <| tSR <| rM rfl rfl <| rM rfl rfl <| bndE h fun v1 e1 h => r_callp rfl (internal_stringslite_HasPrefix_c e1) (CoL.refl _) rfl <| ARun.qv (q_not rfl) rfl <| rN <| ATodo.cond rfl (fun hc => ?_) (fun hc => ?_)
  · refine have h := iteT hc h; tSR <| rM rfl rfl <| rA rfl rfl <| rA rfl rfl <| rN <| ATodo.ret <| ?_
    obtain rfl := Option.some.inj h
    exact ImpX.here ⟨_, .cons (.tmp _ _ rfl) (.cons (.tmp _ _ rfl) .nil), rfl⟩
  · refine have h := iteFb hc h; tK <| tSR <| rM rfl rfl <| rM rfl rfl <| ARun.qv (q_len_str rfl) rfl <| bndE h fun l2 e2 h => ARun.qv (t_slice_str rfl (.some _ _ _ rfl) .none rfl rfl e2) rfl <| rA rfl rfl <| rA rfl rfl <| rN <| ATodo.ret <| ?_
    obtain rfl := Option.some.inj h
    exact ImpX.here ⟨_, .cons (.tmp _ _ rfl) (.cons (.tmp _ _ rfl) .nil), rfl⟩

set_option maxHeartbeats 4000000 in
theorem strings_CutPrefix_c [GI : GTab] {p0x0 : Str} {p1x0 : Str} {r : Str × Bool} (h : strings_CutPrefix p0x0 p1x0 = some r) : Pu Tryz.prog 216 [.str p0x0, .str p1x0] (.tup [.str r.1, .bool r.2]) := by
  unfold strings_CutPrefix at h
  refine ACall.bodyN Tryz.func216 rfl Tryz.ntmps216 Tryz.results216 rfl rfl ?_
  refine tSR <| rA rfl rfl <| rA rfl rfl <| rN <| tSR <| rM rfl rfl <| rM rfl rfl <| bndE h fun v1 e1 h => r_callp rfl (internal_stringslite_CutPrefix_c e1) (CoL.refl _) rfl <| rX rfl rfl rfl <| rX rfl rfl rfl <| rA rfl rfl <| rA rfl rfl <| rN <| ATodo.ret <| ?_
  obtain rfl := Option.some.inj h
  exact ImpX.here ⟨_, .cons (.tmp _ _ rfl) (.cons (.tmp _ _ rfl) .nil), rfl⟩

set_option maxHeartbeats 4000000 in
theorem base_Key_c [GI : GTab] {p0x0 : Str} {r : Bool} (h : base_Key p0x0 = some r) : Pu Tryz.prog 161 [.str p0x0] (.bool r) := by
  unfold base_Key at h
  refine ACall.bodyN Tryz.func161 rfl Tryz.ntmps161 Tryz.results161 rfl rfl ?_
  refine tSR <| rA rfl rfl <| rN <| tS <| tS <| ATodo.cut (fun σ' => ∃ (c1 : Bool), base_Key_j1 p0x0 c1 = some r ∧ σ' = ⟨54, [(0, .str p0x0), (21, .bool c1)], []⟩) ?_ ?_
  · refine tR <| rM rfl rfl <| ARun.qv (q_seq rfl rfl) rfl <| rM rfl rfl <| ARun.guard_df rfl rfl rfl (fun hc => ?_) (fun hc => ?_)
    · refine have h := iteF hc h; rM rfl rfl <| rY rfl rfl rfl <| ARun.qv (q_len_str rfl) rfl <| rY rfl rfl rfl <| ARun.qv (q_gtr rfl rfl) rfl <| rE rfl rfl rfl <| rM rfl rfl <| ARun.guard_df rfl rfl rfl (fun hc => ?_) (fun hc => ?_)
      · refine have h := iteF hc h; rM rfl rfl <| rY rfl rfl rfl <| bndE h fun c2 e1 h => ARun.qv (t_index_str rfl rfl e1) rfl <| rY rfl rfl rfl <| ARun.qv (q_lss rfl rfl) rfl <| rE rfl rfl rfl <| rM rfl rfl <| ARun.guard_df rfl rfl rfl (fun hc => ?_) (fun hc => ?_)
        · exact have h := iteF hc h; rM rfl rfl <| rY rfl rfl rfl <| bndE h fun c3 e2 h => ARun.qv (t_index_str rfl rfl e2) rfl <| rY rfl rfl rfl <| ARun.qv (q_gtr rfl rfl) rfl <| rE rfl rfl rfl <| rN <| ATodo.stop <| ImpX.lq [] ⟨decide ((122 : Int) < (c3.toNat : Int)), h, rfl⟩ rfl rfl
        · exact have h := iteT hc h; rG rfl rfl rfl rfl <| rG rfl rfl rfl rfl <| rT rfl rfl rfl <| rN <| ATodo.stop <| ImpX.lq [] ⟨true, h, rfl⟩ rfl rfl
      · exact have h := iteT hc h; rG rfl rfl rfl rfl <| rG rfl rfl rfl rfl <| rT rfl rfl rfl <| rM rfl rfl <| rG rfl rfl rfl rfl <| rG rfl rfl rfl rfl <| rG rfl rfl rfl rfl <| rT rfl rfl rfl <| rN <| ATodo.stop <| ImpX.lq [] ⟨true, h, rfl⟩ rfl rfl
    · exact have h := iteT hc h; rG rfl rfl rfl rfl <| rG rfl rfl rfl rfl <| rT rfl rfl rfl <| rM rfl rfl <| rG rfl rfl rfl rfl <| rG rfl rfl rfl rfl <| rG rfl rfl rfl rfl <| rT rfl rfl rfl <| rM rfl rfl <| rG rfl rfl rfl rfl <| rG rfl rfl rfl rfl <| rG rfl rfl rfl rfl <| rT rfl rfl rfl <| rN <| ATodo.stop <| ImpX.lq [] ⟨true, h, rfl⟩ rfl rfl
  · rintro σ' ⟨c1, h, rfl⟩
    unfold base_Key_j1 at h
    refine ATodo.cond rfl (fun hc => ?_) (fun hc => ?_)
    · refine have h := iteT hc h; tSR <| rA rfl rfl <| rN <| ATodo.ret <| ?_
      obtain rfl := Option.some.inj h
      exact ImpX.here ⟨_, .cons (.tmp _ _ rfl) .nil, rfl⟩
    · refine have h := iteFb hc h; tK <| tS <| tSR <| rM rfl rfl <| ARun.qv (q_len_str rfl) rfl <| rM rfl rfl <| rN <| ATodo.block <| ATodo.loopI (fun x : Int => base_Key_b1 p0x0 x) (fun x σ' => σ' = ⟨54, [(0, .str p0x0), (23, I (p0x0.length : Int)), (24, I x)], []⟩) h ?_ ?_
      · exact ImpX.lq [] rfl rfl rfl
      · intro n5 z1 σ' J1 hmk h hJ1 hA1
        obtain rfl := hmk
        replace h : base_Key_b1 p0x0 n5 = some z1 := h
        unfold base_Key_b1 at h
        refine tSR <| ARun.qv (q_lss rfl rfl) rfl <| rN <| tS <| ATodo.cond_d rfl (fun hc => ?_) (fun hc => ?_)
        · refine have h := iteT hc h; tK <| tS <| ATodo.block <| tSR <| rM rfl rfl <| rA rfl rfl <| rN <| tSR <| rM rfl rfl <| rM rfl rfl <| bndE h fun c6 e3 h => ARun.qv (t_index_str rfl rfl e3) rfl <| rA rfl rfl <| rN <| tS <| ATodo.cut (fun σ' => ∃ (c7 : Bool), base_Key_j2 n5 c7 = some z1 ∧ σ' = ⟨54, [(0, .str p0x0), (23, I (p0x0.length : Int)), (24, I n5), (52, .bool c7)], []⟩) ?_ ?_
          · refine tR <| rM rfl rfl <| ARun.qv (q_geq rfl rfl) rfl <| rM rfl rfl <| ARun.guard_dt rfl rfl rfl (fun hc => ?_) (fun hc => ?_)
            · rw [if_pos hc] at h
              refine rM rfl rfl <| rY rfl rfl rfl <| ARun.qv (q_leq rfl rfl) rfl <| rT rfl rfl rfl <| rM rfl rfl <| ARun.guard_df rfl rfl rfl (fun hc => ?_) (fun hc => ?_)
              · rw [if_neg hc] at h
                refine rM rfl rfl <| rY rfl rfl rfl <| ARun.qv (q_geq rfl rfl) rfl <| rY rfl rfl rfl <| rM rfl rfl <| ARun.guard_dt rfl rfl rfl (fun hc => ?_) (fun hc => ?_)
                · rw [if_pos hc] at h
                  refine rM rfl rfl <| rY rfl rfl rfl <| ARun.qv (q_leq rfl rfl) rfl <| rY rfl rfl rfl <| rT rfl rfl rfl <| rE rfl rfl rfl <| rM rfl rfl <| ARun.guard_df rfl rfl rfl (fun hc => ?_) (fun hc => ?_)
                  · rw [if_neg hc] at h
                    refine rM rfl rfl <| rY rfl rfl rfl <| ARun.qv (q_eql rfl rfl) rfl <| rE rfl rfl rfl <| rM rfl rfl <| ARun.guard_df rfl rfl rfl (fun hc => ?_) (fun hc => ?_)
                    · rw [if_neg hc] at h
                      exact rM rfl rfl <| rY rfl rfl rfl <| ARun.qv (q_eql rfl rfl) rfl <| rE rfl rfl rfl <| ARun.qv (q_not_d rfl) rfl <| rN <| ATodo.stop <| ImpX.lq [] ⟨decide (¬ ((c6.toNat : Int) = (95 : Int))), h, rfl⟩ rfl rfl
                    · rw [if_pos hc] at h
                      exact rG rfl rfl rfl rfl <| rT rfl rfl rfl <| ARun.qv (q_not rfl) rfl <| rN <| ATodo.stop <| ImpX.lq [] ⟨!true, h, rfl⟩ rfl rfl
                  · rw [if_pos hc] at h
                    exact rG rfl rfl rfl rfl <| rT rfl rfl rfl <| rM rfl rfl <| rG rfl rfl rfl rfl <| rG rfl rfl rfl rfl <| rT rfl rfl rfl <| ARun.qv (q_not rfl) rfl <| rN <| ATodo.stop <| ImpX.lq [] ⟨!true, h, rfl⟩ rfl rfl
                · rw [if_neg hc] at h
                  refine rG rfl rfl rfl rfl <| rY rfl rfl rfl <| rE rfl rfl rfl <| rE rfl rfl rfl <| rM rfl rfl <| rY rfl rfl rfl <| rM rfl rfl <| rY rfl rfl rfl <| ARun.qv (q_eql rfl rfl) rfl <| rE rfl rfl rfl <| rM rfl rfl <| ARun.guard_df rfl rfl rfl (fun hc => ?_) (fun hc => ?_)
                  · rw [if_neg hc] at h
                    exact rM rfl rfl <| rY rfl rfl rfl <| ARun.qv (q_eql rfl rfl) rfl <| rE rfl rfl rfl <| ARun.qv (q_not_d rfl) rfl <| rN <| ATodo.stop <| ImpX.lq [] ⟨decide (¬ ((c6.toNat : Int) = (95 : Int))), h, rfl⟩ rfl rfl
                  · rw [if_pos hc] at h
                    exact rG rfl rfl rfl rfl <| rT rfl rfl rfl <| ARun.qv (q_not rfl) rfl <| rN <| ATodo.stop <| ImpX.lq [] ⟨!true, h, rfl⟩ rfl rfl
              · rw [if_pos hc] at h
                exact rG rfl rfl rfl rfl <| rG rfl rfl rfl rfl <| ARun.guard_und rfl rfl rfl <| ARun.guard_und rfl rfl rfl <| rG rfl rfl rfl rfl <| rT rfl rfl rfl <| rM rfl rfl <| rG rfl rfl rfl rfl <| rG rfl rfl rfl rfl <| rT rfl rfl rfl <| rM rfl rfl <| rG rfl rfl rfl rfl <| rG rfl rfl rfl rfl <| rT rfl rfl rfl <| ARun.qv (q_not rfl) rfl <| rN <| ATodo.stop <| ImpX.lq [] ⟨!true, h, rfl⟩ rfl rfl
            · rw [if_neg hc] at h
              refine rG rfl rfl rfl rfl <| rE rfl rfl rfl <| rM rfl rfl <| rY rfl rfl rfl <| rM rfl rfl <| rY rfl rfl rfl <| ARun.qv (q_geq rfl rfl) rfl <| rY rfl rfl rfl <| rM rfl rfl <| ARun.guard_dt rfl rfl rfl (fun hc => ?_) (fun hc => ?_)
              · rw [if_pos hc] at h
                refine rM rfl rfl <| rY rfl rfl rfl <| ARun.qv (q_leq rfl rfl) rfl <| rY rfl rfl rfl <| rT rfl rfl rfl <| rE rfl rfl rfl <| rM rfl rfl <| ARun.guard_df rfl rfl rfl (fun hc => ?_) (fun hc => ?_)
                · rw [if_neg hc] at h
                  refine rM rfl rfl <| rY rfl rfl rfl <| ARun.qv (q_eql rfl rfl) rfl <| rE rfl rfl rfl <| rM rfl rfl <| ARun.guard_df rfl rfl rfl (fun hc => ?_) (fun hc => ?_)
                  · rw [if_neg hc] at h
                    exact rM rfl rfl <| rY rfl rfl rfl <| ARun.qv (q_eql rfl rfl) rfl <| rE rfl rfl rfl <| ARun.qv (q_not_d rfl) rfl <| rN <| ATodo.stop <| ImpX.lq [] ⟨decide (¬ ((c6.toNat : Int) = (95 : Int))), h, rfl⟩ rfl rfl
                  · rw [if_pos hc] at h
                    exact rG rfl rfl rfl rfl <| rT rfl rfl rfl <| ARun.qv (q_not rfl) rfl <| rN <| ATodo.stop <| ImpX.lq [] ⟨!true, h, rfl⟩ rfl rfl
                · rw [if_pos hc] at h
                  exact rG rfl rfl rfl rfl <| rT rfl rfl rfl <| rM rfl rfl <| rG rfl rfl rfl rfl <| rG rfl rfl rfl rfl <| rT rfl rfl rfl <| ARun.qv (q_not rfl) rfl <| rN <| ATodo.stop <| ImpX.lq [] ⟨!true, h, rfl⟩ rfl rfl
              · rw [if_neg hc] at h
                refine rG rfl rfl rfl rfl <| rY rfl rfl rfl <| rE rfl rfl rfl <| rE rfl rfl rfl <| rM rfl rfl <| rY rfl rfl rfl <| rM rfl rfl <| rY rfl rfl rfl <| ARun.qv (q_eql rfl rfl) rfl <| rE rfl rfl rfl <| rM rfl rfl <| ARun.guard_df rfl rfl rfl (fun hc => ?_) (fun hc => ?_)
                · rw [if_neg hc] at h
                  exact rM rfl rfl <| rY rfl rfl rfl <| ARun.qv (q_eql rfl rfl) rfl <| rE rfl rfl rfl <| ARun.qv (q_not_d rfl) rfl <| rN <| ATodo.stop <| ImpX.lq [] ⟨decide (¬ ((c6.toNat : Int) = (95 : Int))), h, rfl⟩ rfl rfl
                · rw [if_pos hc] at h
                  exact rG rfl rfl rfl rfl <| rT rfl rfl rfl <| ARun.qv (q_not rfl) rfl <| rN <| ATodo.stop <| ImpX.lq [] ⟨!true, h, rfl⟩ rfl rfl
          · rintro σ' ⟨c7, h, rfl⟩
            unfold base_Key_j2 at h
            refine ATodo.cond rfl (fun hc => ?_) (fun hc => ?_)
            · refine have h := iteT hc h; tSR <| rA rfl rfl <| rN <| ATodo.ret <| have h := outL h hA1; ?_
              obtain rfl := Option.some.inj h
              exact ImpX.here ⟨_, .cons (.tmp _ _ rfl) .nil, rfl⟩
            · refine have h := iteFb hc h; tK <| ATodo.blk <| tR <| ARun.qv (q_addw rfl rfl) rfl <| rM rfl rfl <| rN <| ATodo.stop <| ?_
              obtain rfl := Option.some.inj h
              exact hJ1 _ _ rfl <| ImpX.lq [] rfl rfl rfl
        · refine have h := iteF hc h; ATodo.exit rfl <| have h := outL h hA1; tSR <| rA rfl rfl <| rN <| ATodo.ret <| ?_
          obtain rfl := Option.some.inj h
          exact ImpX.here ⟨_, .cons (.tmp _ _ rfl) .nil, rfl⟩

set_option maxHeartbeats 4000000 in
theorem item_isTag_c [GI : GTab] {p0x0 : Str} {r : Bool} (h : item_isTag p0x0 = some r) : Pu Tryz.prog 260 [.str p0x0] (.bool r) := by
  unfold item_isTag at h
  refine ACall.bodyN Tryz.func260 rfl Tryz.ntmps260 Tryz.results260 rfl rfl ?_
  refine tSR <| rA rfl rfl <| rN <| tSR <| rM rfl rfl <| bndE h fun v1 e1 h => r_callp rfl (strings_CutPrefix_c e1) (CoL.refl _) rfl <| rM rfl rfl <| rX rfl rfl rfl <| rX rfl rfl rfl <| rA rfl rfl <| rA rfl rfl <| rN <| tS <| ATodo.cut (fun σ' => ∃ (c2 : Bool), item_isTag_j1 c2 = some r ∧ σ' = ⟨15, [(2, .bool c2)], []⟩) ?_ ?_
  · refine tR <| rM rfl rfl <| rM rfl rfl <| ARun.guard rfl rfl rfl (fun hc => ?_) (fun hc => ?_)
    · exact have h := iteT hc h; rM rfl rfl <| rY rfl rfl rfl <| bndE h fun v3 e2 h => r_callp rfl (base_Key_c e2) (CoL.refl _) rfl <| rT rfl rfl rfl <| rA rfl rfl <| rN <| ATodo.stop <| ImpX.lq [] ⟨v3, h, rfl⟩ rfl rfl
    · exact have h := iteFb hc h; rG rfl rfl rfl rfl <| rE rfl rfl rfl <| rA rfl rfl <| rN <| ATodo.stop <| ImpX.lq [] ⟨false, h, rfl⟩ rfl rfl
  · rintro σ' ⟨c2, h, rfl⟩
    unfold item_isTag_j1 at h
    refine ATodo.ret <| ?_
    obtain rfl := Option.some.inj h
    exact ImpX.here ⟨_, .cons (.tmp _ _ rfl) .nil, rfl⟩

set_option maxHeartbeats 4000000 in
theorem base_Dotted_c {p0x0 : Str} {p1x0 : Int} {r : Bool} (h : base_Dotted p0x0 p1x0 = some r) : Pu Tryz.prog 139 [.str p0x0, I p1x0] (.bool r) := by
  unfold base_Dotted at h
  refine ACall.bodyN Tryz.func139 rfl Tryz.ntmps139 Tryz.results139 rfl rfl ?_
  refine tSR <| rA rfl rfl <| rN <| tS <| tSR <| rA rfl rfl <| rN <| ATodo.block <| ATodo.loopI (fun x : Str × Int => base_Dotted_b1 p1x0 x.1 x.2) (fun x σ' => σ' = ⟨26, [(0, .str x.1), (1, I p1x0), (5, I x.2)], []⟩) h ?_ ?_
  · exact ImpX.lq [] rfl rfl rfl
  · intro x z1 σ' J1 hmk h hJ1 hA1
    obtain ⟨q3, n4⟩ := x
    obtain rfl := hmk
    replace h : base_Dotted_b1 p1x0 q3 n4 = some z1 := h
    unfold base_Dotted_b1 at h
    refine tS <| tSR <| rM rfl rfl <| rM rfl rfl <| ARun.qv (q_lss rfl rfl) rfl <| rN <| ATodo.cond_d rfl (fun hc => ?_) (fun hc => ?_)
    · refine have h := iteT hc h; tK <| tS <| ATodo.block <| tSR <| rM rfl rfl <| bndE h fun v5 e1 h => r_callp rfl (strings_Cut_c e1) (CoL.refl _) rfl <| rM rfl rfl <| rX rfl rfl rfl <| rX rfl rfl rfl <| rX rfl rfl rfl <| rA rfl rfl <| rA rfl rfl <| rA rfl rfl <| rN <| tS <| tSR <| rM rfl rfl <| bndE h fun v6 e2 h => r_callp rfl (base_Key_c e2) (CoL.refl _) rfl <| ARun.qv (q_not rfl) rfl <| rN <| ATodo.cond rfl (fun hc => ?_) (fun hc => ?_)
      · refine have h := iteT hc h; tSR <| rA rfl rfl <| rN <| ATodo.ret <| have h := outL h hA1; ?_
        obtain rfl := Option.some.inj h
        exact ImpX.here ⟨_, .cons (.tmp _ _ rfl) .nil, rfl⟩
      · refine have h := iteFb hc h; tK <| tS <| tSR <| rM rfl rfl <| ARun.qv (q_not rfl) rfl <| rN <| ATodo.cond rfl (fun hc => ?_) (fun hc => ?_)
        · refine have h := iteT hc h; tSR <| rA rfl rfl <| rN <| ATodo.ret <| have h := outL h hA1; ?_
          obtain rfl := Option.some.inj h
          exact ImpX.here ⟨_, .cons (.tmp _ _ rfl) .nil, rfl⟩
        · refine have h := iteFb hc h; tK <| tR <| rM rfl rfl <| rA rfl rfl <| rN <| ATodo.blk <| tR <| rM rfl rfl <| ARun.qv (q_addw rfl rfl) rfl <| rA rfl rfl <| rN <| ATodo.stop <| ?_
          obtain rfl := Option.some.inj h
          exact hJ1 _ _ rfl <| ImpX.lq [] rfl rfl rfl
    · refine have h := iteF hc h; ATodo.exit rfl <| have h := outL h hA1; tSR <| rA rfl rfl <| rN <| ATodo.ret <| ?_
      obtain rfl := Option.some.inj h
      exact ImpX.here ⟨_, .cons (.tmp _ _ rfl) .nil, rfl⟩

set_option maxHeartbeats 4000000 in
theorem item_Property_c {p0x0 : Str} {r : Bool} (h : item_Property p0x0 = some r) : Pu Tryz.prog 174 [.str p0x0] (.bool r) := by
  unfold item_Property at h
  refine ACall.bodyN Tryz.func174 rfl Tryz.ntmps174 Tryz.results174 rfl rfl ?_
  refine tSR <| rA rfl rfl <| rN <| tS <| ATodo.cut (fun σ' => ∃ (c1 : Bool), item_Property_j1 c1 = some r ∧ σ' = ⟨10, [(2, .bool c1)], []⟩) ?_ ?_
  · refine tR <| rM rfl rfl <| ARun.qv (q_len_str rfl) rfl <| ARun.qv (q_leq rfl rfl) rfl <| rM rfl rfl <| ARun.guard_dt rfl rfl rfl (fun hc => ?_) (fun hc => ?_)
    · exact have h := iteT hc h; rM rfl rfl <| rY rfl rfl rfl <| bndE h fun v2 e1 h => r_callp rfl (base_Dotted_c e1) (CoL.refl _) rfl <| rT rfl rfl rfl <| rA rfl rfl <| rN <| ATodo.stop <| ImpX.lq [] ⟨v2, h, rfl⟩ rfl rfl
    · exact have h := iteF hc h; rG rfl rfl rfl rfl <| rE rfl rfl rfl <| rA rfl rfl <| rN <| ATodo.stop <| ImpX.lq [] ⟨false, h, rfl⟩ rfl rfl
  · rintro σ' ⟨c1, h, rfl⟩
    unfold item_Property_j1 at h
    refine ATodo.ret <| ?_
    obtain rfl := Option.some.inj h
    exact ImpX.here ⟨_, .cons (.tmp _ _ rfl) .nil, rfl⟩

set_option maxHeartbeats 4000000 in
theorem item_isProp_c {p0x0 : Str} {r : Bool} (h : item_isProp p0x0 = some r) : Pu Tryz.prog 261 [.str p0x0] (.bool r) := by
  unfold item_isProp at h
  refine ACall.bodyN Tryz.func261 rfl Tryz.ntmps261 Tryz.results261 rfl rfl ?_
  refine tSR <| rA rfl rfl <| rN <| tSR <| rM rfl rfl <| bndE h fun v1 e1 h => r_callp rfl (strings_CutPrefix_c e1) (CoL.refl _) rfl <| rM rfl rfl <| rX rfl rfl rfl <| rX rfl rfl rfl <| rA rfl rfl <| rA rfl rfl <| rN <| tS <| ATodo.cut (fun σ' => ∃ (c2 : Bool), item_isProp_j1 c2 = some r ∧ σ' = ⟨15, [(2, .bool c2)], []⟩) ?_ ?_
  · refine tR <| rM rfl rfl <| rM rfl rfl <| ARun.guard rfl rfl rfl (fun hc => ?_) (fun hc => ?_)
    · exact have h := iteT hc h; rM rfl rfl <| rY rfl rfl rfl <| bndE h fun v3 e2 h => r_callp rfl (item_Property_c e2) (CoL.refl _) rfl <| rT rfl rfl rfl <| rA rfl rfl <| rN <| ATodo.stop <| ImpX.lq [] ⟨v3, h, rfl⟩ rfl rfl
    · exact have h := iteFb hc h; rG rfl rfl rfl rfl <| rE rfl rfl rfl <| rA rfl rfl <| rN <| ATodo.stop <| ImpX.lq [] ⟨false, h, rfl⟩ rfl rfl
  · rintro σ' ⟨c2, h, rfl⟩
    unfold item_isProp_j1 at h
    refine ATodo.ret <| ?_
    obtain rfl := Option.some.inj h
    exact ImpX.here ⟨_, .cons (.tmp _ _ rfl) .nil, rfl⟩

set_option maxHeartbeats 4000000 in
theorem item_Field_c {p0x0 : Str} {r : Bool} (h : item_Field p0x0 = some r) : Pu Tryz.prog 259 [.str p0x0] (.bool r) := by
  unfold item_Field at h
  refine ACall.bodyN Tryz.func259 rfl Tryz.ntmps259 Tryz.results259 rfl rfl ?_
  refine tSR <| rA rfl rfl <| rN <| tS <| ATodo.cut (fun σ' => ∃ (c1 : Bool), item_Field_j1 c1 = some r ∧ σ' = ⟨25, [(2, .bool c1)], []⟩) ?_ ?_
  · refine tR <| rM rfl rfl <| ARun.qv (q_seq rfl rfl) rfl <| rM rfl rfl <| ARun.guard_df rfl rfl rfl (fun hc => ?_) (fun hc => ?_)
    · refine have h := iteF hc h; rM rfl rfl <| rY rfl rfl rfl <| ARun.qv (q_seq rfl rfl) rfl <| rE rfl rfl rfl <| rM rfl rfl <| ARun.guard_df rfl rfl rfl (fun hc => ?_) (fun hc => ?_)
      · refine have h := iteF hc h; rM rfl rfl <| rY rfl rfl rfl <| ARun.qv (q_seq rfl rfl) rfl <| rE rfl rfl rfl <| rM rfl rfl <| ARun.guard_df rfl rfl rfl (fun hc => ?_) (fun hc => ?_)
        · refine have h := iteF hc h; rM rfl rfl <| rY rfl rfl rfl <| ARun.qv (q_seq rfl rfl) rfl <| rE rfl rfl rfl <| rM rfl rfl <| ARun.guard_df rfl rfl rfl (fun hc => ?_) (fun hc => ?_)
          · refine have h := iteF hc h; rM rfl rfl <| rY rfl rfl rfl <| bndE h fun v2 e1 h => r_callp rfl (item_isTag_c e1) (CoL.refl _) rfl <| rE rfl rfl rfl <| rM rfl rfl <| ARun.guard rfl rfl rfl (fun hc => ?_) (fun hc => ?_)
            · exact have h := iteFb hc h; rM rfl rfl <| rY rfl rfl rfl <| bndE h fun v3 e2 h => r_callp rfl (item_isProp_c e2) (CoL.refl _) rfl <| rE rfl rfl rfl <| rA rfl rfl <| rN <| ATodo.stop <| ImpX.lq [] ⟨v3, h, rfl⟩ rfl rfl
            · exact have h := iteT hc h; rG rfl rfl rfl rfl <| rT rfl rfl rfl <| rA rfl rfl <| rN <| ATodo.stop <| ImpX.lq [] ⟨true, h, rfl⟩ rfl rfl
          · exact have h := iteT hc h; rG rfl rfl rfl rfl <| rT rfl rfl rfl <| rM rfl rfl <| rG rfl rfl rfl rfl <| rG rfl rfl rfl rfl <| rT rfl rfl rfl <| rA rfl rfl <| rN <| ATodo.stop <| ImpX.lq [] ⟨true, h, rfl⟩ rfl rfl
        · exact have h := iteT hc h; rG rfl rfl rfl rfl <| rT rfl rfl rfl <| rM rfl rfl <| rG rfl rfl rfl rfl <| rG rfl rfl rfl rfl <| rT rfl rfl rfl <| rM rfl rfl <| rG rfl rfl rfl rfl <| rG rfl rfl rfl rfl <| rT rfl rfl rfl <| rA rfl rfl <| rN <| ATodo.stop <| ImpX.lq [] ⟨true, h, rfl⟩ rfl rfl
      · exact have h := iteT hc h; rG rfl rfl rfl rfl <| rT rfl rfl rfl <| rM rfl rfl <| rG rfl rfl rfl rfl <| rG rfl rfl rfl rfl <| rT rfl rfl rfl <| rM rfl rfl <| rG rfl rfl rfl rfl <| rG rfl rfl rfl rfl <| rT rfl rfl rfl <| rM rfl rfl <| rG rfl rfl rfl rfl <| rG rfl rfl rfl rfl <| rT rfl rfl rfl <| rA rfl rfl <| rN <| ATodo.stop <| ImpX.lq [] ⟨true, h, rfl⟩ rfl rfl
    · exact have h := iteT hc h; rG rfl rfl rfl rfl <| rT rfl rfl rfl <| rM rfl rfl <| rG rfl rfl rfl rfl <| rG rfl rfl rfl rfl <| rT rfl rfl rfl <| rM rfl rfl <| rG rfl rfl rfl rfl <| rG rfl rfl rfl rfl <| rT rfl rfl rfl <| rM rfl rfl <| rG rfl rfl rfl rfl <| rG rfl rfl rfl rfl <| rT rfl rfl rfl <| rM rfl rfl <| rG rfl rfl rfl rfl <| rG rfl rfl rfl rfl <| rT rfl rfl rfl <| rA rfl rfl <| rN <| ATodo.stop <| ImpX.lq [] ⟨true, h, rfl⟩ rfl rfl
  · rintro σ' ⟨c1, h, rfl⟩
    unfold item_Field_j1 at h
    refine ATodo.ret <| ?_
    obtain rfl := Option.some.inj h
    exact ImpX.here ⟨_, .cons (.tmp _ _ rfl) .nil, rfl⟩

set_option maxHeartbeats 4000000 in
theorem item_Operations_c [GI : GTab] {r : (List Str)} (h : item_Operations = r) : ACall Tryz.prog 262 [] [] (T1 (fun d_0 => [(d_0, .arr 1 (r.map AV.str))]) (fun d_0 => .sl 1 d_0 0 r.length)) := by
  unfold item_Operations at h
  refine ACall.lessH ?_
  refine ACall.bodyN Tryz.func262 rfl Tryz.ntmps262 Tryz.results262 rfl rfl ?_
  refine tSR <| rA rfl rfl <| rN <| tSR <| n_buildSlice rfl rfl rfl rfl rfl rfl fun b1 => rA rfl rfl <| rN <| ATodo.ret <| ?_
  obtain rfl := h
  exact ImpX.here ⟨_, .cons (.tmp _ _ rfl) .nil, _, .cons .p0 .nil, ⟨b1, rfl, rfl⟩⟩

set_option maxHeartbeats 4000000 in
theorem slices_Index_string_string_c [GI : GTab] {p0x0 : List Str} {p1x0 : Str} {r : Int} (h : slices_Index_string_string p0x0 p1x0 = some r) : Pu Tryz.prog 149 [.list 1 (p0x0.map AV.str), .str p1x0] (I r) := by
  unfold slices_Index_string_string at h
  refine ACall.bodyN Tryz.func149 rfl Tryz.ntmps149 Tryz.results149 rfl rfl ?_
  refine tSR <| rA rfl rfl <| rN <| tS <| tSR <| rM rfl rfl <| ARun.qv (t_len rfl) rfl <| rM rfl rfl <| rN <| ATodo.block <| ATodo.loopI (fun x : Int => slices_Index_string_string_b1 p0x0 p1x0 x) (fun x σ' => σ' = ⟨19, [(0, .list 1 (p0x0.map AV.str)), (1, .str p1x0), (7, I (p0x0.length : Int)), (8, I x)], []⟩) h ?_ ?_
  · exact ImpX.lq [] rfl rfl rfl
  · intro n2 z1 σ' J1 hmk h hJ1 hA1
    obtain rfl := hmk
    replace h : slices_Index_string_string_b1 p0x0 p1x0 n2 = some z1 := h
    unfold slices_Index_string_string_b1 at h
    refine tSR <| ARun.qv (q_lss rfl rfl) rfl <| rN <| tS <| ATodo.cond_d rfl (fun hc => ?_) (fun hc => ?_)
    · refine have h := iteT hc h; tK <| tS <| ATodo.block <| tSR <| rM rfl rfl <| rA rfl rfl <| rN <| tSR <| rM rfl rfl <| rM rfl rfl <| rM rfl rfl <| bndE h fun v3 e1 h => ARun.qv (t_index rfl rfl rfl e1 rfl rfl) rfl <| ARun.qv (q_load_rptr rfl rfl rfl) rfl <| ARun.qv (q_seq rfl rfl) rfl <| rN <| ATodo.cond_d rfl (fun hc => ?_) (fun hc => ?_)
      · refine have h := iteT hc h; tSR <| rM rfl rfl <| rA rfl rfl <| rN <| ATodo.ret <| have h := outL h hA1; ?_
        obtain rfl := Option.some.inj h
        exact ImpX.here ⟨_, .cons (.tmp _ _ rfl) .nil, rfl⟩
      · refine have h := iteF hc h; tK <| ATodo.blk <| tR <| ARun.qv (q_addw rfl rfl) rfl <| rM rfl rfl <| rN <| ATodo.stop <| ?_
        obtain rfl := Option.some.inj h
        exact hJ1 _ _ rfl <| ImpX.lq [] rfl rfl rfl
    · refine have h := iteF hc h; ATodo.exit rfl <| have h := outL h hA1; tSR <| rA rfl rfl <| rN <| ATodo.ret <| ?_
      obtain rfl := Option.some.inj h
      exact ImpX.here ⟨_, .cons (.tmp _ _ rfl) .nil, rfl⟩

set_option maxHeartbeats 4000000 in
theorem slices_Contains_string_string_c [GI : GTab] {p0x0 : List Str} {p1x0 : Str} {r : Bool} (h : slices_Contains_string_string p0x0 p1x0 = some r) : Pu Tryz.prog 71 [.list 1 (p0x0.map AV.str), .str p1x0] (.bool r) := by
  unfold slices_Contains_string_string at h
  refine ACall.bodyN Tryz.func71 rfl Tryz.ntmps71 Tryz.results71 rfl rfl ?_
  refine tSR <| rA rfl rfl <| rN <| tSR <| rM rfl rfl <| rM rfl rfl <| bndE h fun v1 e1 h => r_callp rfl (slices_Index_string_string_c e1) (CoL.refl _) rfl <| ARun.qv (q_geq rfl rfl) rfl <| rA rfl rfl <| rN <| ATodo.ret <| ?_
  obtain rfl := Option.some.inj h
  exact ImpX.here ⟨_, .cons (.tmp _ _ rfl) .nil, rfl⟩

set_option maxHeartbeats 4000000 in
theorem base_Version_c [GI : GTab] {p0x0 : Version} {r : Bool} (h : base_Version p0x0 = r) : Pu Tryz.prog 172 [.agg [I p0x0.Major, I p0x0.Minor, I p0x0.Patch]] (.bool r) := by
  unfold base_Version at h
  refine ACall.bodyN Tryz.func172 rfl Tryz.ntmps172 Tryz.results172 rfl rfl ?_
  refine tSR <| n_box rfl rfl rfl rfl fun b1 => rA rfl rfl <| rN <| tS <| ATodo.cut (fun σ' => ∃ (c2 : Bool), base_Version_j1 c2 = r ∧ σ' = ⟨19, [(2, .bool c2)], []⟩) ?_ ?_
  · refine tR <| rF rfl rfl rfl <| rL rfl rfl .p0 rfl rfl <| r_callp rfl (base_Out_c rfl) (CoL.refl _) rfl <| ARun.qv (q_not rfl) rfl <| rM rfl rfl <| ARun.guard rfl rfl rfl (fun hc => ?_) (fun hc => ?_)
    · rw [andTb hc] at h
      refine rF rfl rfl rfl <| rY rfl rfl rfl <| rL rfl rfl .p0 rfl rfl <| rY rfl rfl rfl <| r_callp rfl (base_Out_c rfl) (CoL.refl _) rfl <| rY rfl rfl rfl <| ARun.qv (q_not rfl) rfl <| rT rfl rfl rfl <| rM rfl rfl <| ARun.guard rfl rfl rfl (fun hc => ?_) (fun hc => ?_)
      · rw [andTb hc] at h
        exact rF rfl rfl rfl <| rY rfl rfl rfl <| rL rfl rfl .p0 rfl rfl <| rY rfl rfl rfl <| r_callp rfl (base_Out_c rfl) (CoL.refl _) rfl <| rY rfl rfl rfl <| ARun.qv (q_not rfl) rfl <| rT rfl rfl rfl <| rA rfl rfl <| rN <| ATodo.stop <| ImpX.lq [] ⟨!(base_Out p0x0.Patch (0 : Int) (9999 : Int)), h, rfl⟩ rfl rfl
      · rw [andFb hc] at h
        exact rG rfl rfl rfl rfl <| rG rfl rfl rfl rfl <| rG rfl rfl rfl rfl <| rE rfl rfl rfl <| rA rfl rfl <| rN <| ATodo.stop <| ImpX.lq [] ⟨false, h, rfl⟩ rfl rfl
    · rw [andFb hc] at h
      exact rG rfl rfl rfl rfl <| rG rfl rfl rfl rfl <| rG rfl rfl rfl rfl <| rE rfl rfl rfl <| rM rfl rfl <| rG rfl rfl rfl rfl <| rG rfl rfl rfl rfl <| rG rfl rfl rfl rfl <| rG rfl rfl rfl rfl <| rE rfl rfl rfl <| rA rfl rfl <| rN <| ATodo.stop <| ImpX.lq [] ⟨false, h, rfl⟩ rfl rfl
  · rintro σ' ⟨c2, h, rfl⟩
    unfold base_Version_j1 at h
    refine ATodo.ret <| ?_
    obtain rfl := h
    exact ImpX.here ⟨_, .cons (.tmp _ _ rfl) .nil, rfl⟩

set_option maxHeartbeats 4000000 in
theorem item_Right_c {p0x0 : ValueS} {r : Bool} (h : item_Right p0x0 = some r) : Pu Tryz.prog 175 [.agg [I p0x0.Kind, .bool p0x0.Flag, I p0x0.Number, .str p0x0.Words]] (.bool r) := by
  unfold item_Right at h
  refine ACall.bodyN Tryz.func175 rfl Tryz.ntmps175 Tryz.results175 rfl rfl ?_
  refine tSR <| n_box rfl rfl rfl rfl fun b1 => rA rfl rfl <| rN <| tSR <| rF rfl rfl rfl <| rL rfl rfl .p0 rfl rfl <| ARun.qv (n_build rfl rfl rfl rfl rfl) rfl <| n_alloc rfl rfl rfl rfl fun b2 => n_store_ptr rfl rfl rfl rfl .p0 rfl rfl <| rN <| tS <| tSR <| rF rfl rfl rfl <| rL rfl rfl .p1 rfl rfl <| rN <| ATodo.block <| tSR <| ARun.qv (q_eql rfl rfl) rfl <| rA rfl rfl <| rN <| ATodo.cut (fun σ' => ∃ (c3 : Bool) (n4 : Int) (q5 : Str), item_Right_j1 p0x0 c3 n4 q5 = some r ∧ σ' = ⟨46, [(1, .ptr b1 0), (3, .ptr b2 0)], [(b1, .cells [I p0x0.Kind, .bool p0x0.Flag, I p0x0.Number, .str p0x0.Words]), (b2, .cells [I p0x0.Kind, .bool c3, I n4, .str q5])]⟩) ?_ ?_
  · refine ATodo.cond_d rfl (fun hc => ?_) (fun hc => ?_)
    · exact have h := iteT hc h; tK <| ATodo.stop <| ImpX.lq [1, 0] ⟨false, (0 : Int), [], h, rfl⟩ rfl rfl
    · refine have h := iteF hc h; tSR <| ARun.qv (q_eql rfl rfl) rfl <| rA rfl rfl <| rN <| ATodo.cut (fun σ' => ∃ (c6 : Bool) (n7 : Int) (q8 : Str), item_Right_j2 p0x0 c6 n7 q8 = some r ∧ σ' = ⟨46, [(1, .ptr b1 0), (3, .ptr b2 0)], [(b1, .cells [I p0x0.Kind, .bool p0x0.Flag, I p0x0.Number, .str p0x0.Words]), (b2, .cells [I p0x0.Kind, .bool c6, I n7, .str q8])]⟩) ?_ ?_
      · refine ATodo.cond_d rfl (fun hc => ?_) (fun hc => ?_)
        · exact have h := iteT hc h; tR <| rF rfl rfl rfl <| rL rfl rfl .p1 rfl rfl <| rF rfl rfl rfl <| n_store_ptr rfl rfl rfl rfl .p0 rfl rfl <| rN <| ATodo.stop <| ImpX.lq [1, 0] ⟨p0x0.Flag, (0 : Int), [], h, rfl⟩ rfl rfl
        · refine have h := iteF hc h; tSR <| ARun.qv (q_eql rfl rfl) rfl <| rA rfl rfl <| rN <| ATodo.cut (fun σ' => ∃ (n9 : Int) (q10 : Str), item_Right_j3 p0x0 n9 q10 = some r ∧ σ' = ⟨46, [(1, .ptr b1 0), (3, .ptr b2 0)], [(b1, .cells [I p0x0.Kind, .bool p0x0.Flag, I p0x0.Number, .str p0x0.Words]), (b2, .cells [I p0x0.Kind, .bool false, I n9, .str q10])]⟩) ?_ ?_
          · refine ATodo.cond_d rfl (fun hc => ?_) (fun hc => ?_)
            · exact have h := iteT hc h; tR <| rF rfl rfl rfl <| rL rfl rfl .p1 rfl rfl <| rF rfl rfl rfl <| n_store_ptr rfl rfl rfl rfl .p0 rfl rfl <| rN <| ATodo.stop <| ImpX.lq [1, 0] ⟨p0x0.Number, [], h, rfl⟩ rfl rfl
            · refine have h := iteF hc h; tSR <| ARun.qv (q_eql rfl rfl) rfl <| rA rfl rfl <| rN <| ATodo.cond_d rfl (fun hc => ?_) (fun hc => ?_)
              · exact have h := iteT hc h; tR <| rF rfl rfl rfl <| rL rfl rfl .p1 rfl rfl <| rF rfl rfl rfl <| n_store_ptr rfl rfl rfl rfl .p0 rfl rfl <| rN <| ATodo.stop <| ImpX.lq [1, 0] ⟨(0 : Int), p0x0.Words, h, rfl⟩ rfl rfl
              · refine have h := iteF hc h; tSR <| rA rfl rfl <| rN <| ATodo.ret <| ?_
                obtain rfl := Option.some.inj h
                exact ImpX.here ⟨_, .cons (.tmp _ _ rfl) .nil, rfl⟩
          · rintro σ' ⟨n9, q10, h, rfl⟩
            unfold item_Right_j3 at h
            exact ATodo.stop <| ImpX.lq [0, 0] ⟨false, n9, q10, h, rfl⟩ rfl rfl
      · rintro σ' ⟨c6, n7, q8, h, rfl⟩
        unfold item_Right_j2 at h
        exact ATodo.stop <| ImpX.lq [0, 0] ⟨c6, n7, q8, h, rfl⟩ rfl rfl
  · rintro σ' ⟨c3, n4, q5, h, rfl⟩
    unfold item_Right_j1 at h
    refine ATodo.blk <| tS <| ATodo.cut (fun σ' => ∃ (c11 : Bool), item_Right_j4 c11 = some r ∧ σ' = ⟨46, [(2, .bool c11)], []⟩) ?_ ?_
    · refine tR <| ARun.qv (q_load_ptr_all rfl rfl .p0 rfl) rfl <| ARun.qv (q_load_ptr_all rfl rfl .p1 rfl) rfl <| ARun.qv (t_teq (g := ValueS.av) (X := p0x0) (Y := (⟨p0x0.Kind, c3, n4, q5⟩ : ValueS)) rfl rfl rfl rfl rfl) rfl <| rM rfl rfl <| ARun.guard_dt rfl rfl rfl (fun hc => ?_) (fun hc => ?_)
      · refine have h := iteT hc h; rF rfl rfl rfl <| rY rfl rfl rfl <| rL rfl rfl .p0 rfl rfl <| rY rfl rfl rfl <| r_callp rfl (base_Out_c rfl) (CoL.refl _) rfl <| rY rfl rfl rfl <| ARun.qv (q_not rfl) rfl <| rT rfl rfl rfl <| rM rfl rfl <| ARun.guard rfl rfl rfl (fun hc => ?_) (fun hc => ?_)
        · refine have h := iteT hc h; rF rfl rfl rfl <| rY rfl rfl rfl <| rL rfl rfl .p0 rfl rfl <| rY rfl rfl rfl <| ARun.qv (q_len_str rfl) rfl <| rY rfl rfl rfl <| ARun.qv (q_leq rfl rfl) rfl <| rT rfl rfl rfl <| rM rfl rfl <| ARun.guard_dt rfl rfl rfl (fun hc => ?_) (fun hc => ?_)
          · exact have h := iteT hc h; rF rfl rfl rfl <| rY rfl rfl rfl <| rL rfl rfl .p0 rfl rfl <| rY rfl rfl rfl <| bndE h fun v12 e1 h => r_callp rfl (utf8_ValidString_c e1) (CoL.refl _) rfl <| rT rfl rfl rfl <| rA rfl rfl <| rN <| ATodo.stop <| ImpX.lq [] ⟨v12, h, rfl⟩ rfl rfl
          · exact have h := iteF hc h; rG rfl rfl rfl rfl <| rG rfl rfl rfl rfl <| rE rfl rfl rfl <| rA rfl rfl <| rN <| ATodo.stop <| ImpX.lq [] ⟨false, h, rfl⟩ rfl rfl
        · exact have h := iteFb hc h; rG rfl rfl rfl rfl <| rG rfl rfl rfl rfl <| rG rfl rfl rfl rfl <| rE rfl rfl rfl <| rM rfl rfl <| rG rfl rfl rfl rfl <| rG rfl rfl rfl rfl <| rG rfl rfl rfl rfl <| rE rfl rfl rfl <| rA rfl rfl <| rN <| ATodo.stop <| ImpX.lq [] ⟨false, h, rfl⟩ rfl rfl
      · exact have h := iteF hc h; rG rfl rfl rfl rfl <| rG rfl rfl rfl rfl <| rG rfl rfl rfl rfl <| rE rfl rfl rfl <| rM rfl rfl <| rG rfl rfl rfl rfl <| rG rfl rfl rfl rfl <| rG rfl rfl rfl rfl <| rG rfl rfl rfl rfl <| rE rfl rfl rfl <| rM rfl rfl <| rG rfl rfl rfl rfl <| rG rfl rfl rfl rfl <| rG rfl rfl rfl rfl <| rE rfl rfl rfl <| rA rfl rfl <| rN <| ATodo.stop <| ImpX.lq [] ⟨false, h, rfl⟩ rfl rfl
    · rintro σ' ⟨c11, h, rfl⟩
      unfold item_Right_j4 at h
      refine ATodo.ret <| ?_
      obtain rfl := Option.some.inj h
      exact ImpX.here ⟨_, .cons (.tmp _ _ rfl) .nil, rfl⟩

set_option maxHeartbeats 4000000 in
theorem item_leafFault_c {p0x0 : Query} {r : Int} (h : item_leafFault p0x0 = some r) : Pu Tryz.prog 242 [.agg [I p0x0.Kind, .str p0x0.Field, .str p0x0.Op, I p0x0.Value.Kind, .bool p0x0.Value.Flag, I p0x0.Value.Number, .str p0x0.Value.Words, I p0x0.Version.Major, I p0x0.Version.Minor, I p0x0.Version.Patch, .list 11 (p0x0.Kids.map Query.av)]] (I r) := by
  unfold item_leafFault at h
  refine ACall.bodyN Tryz.func242 rfl Tryz.ntmps242 Tryz.results242 rfl rfl ?_
  refine tSR <| n_box rfl rfl rfl rfl fun b1 => rA rfl rfl <| rN <| tS <| tS <| ATodo.cut (fun σ' => ∃ (c2 : Bool), item_leafFault_j1 p0x0 c2 = some r ∧ σ' = ⟨98, [(1, .ptr b1 0), (24, .bool c2)], [(b1, .cells [I p0x0.Kind, .str p0x0.Field, .str p0x0.Op, I p0x0.Value.Kind, .bool p0x0.Value.Flag, I p0x0.Value.Number, .str p0x0.Value.Words, I p0x0.Version.Major, I p0x0.Version.Minor, I p0x0.Version.Patch, .list 11 (p0x0.Kids.map Query.av)])]⟩) ?_ ?_
  · refine tR <| rF rfl rfl rfl <| rL rfl rfl .p0 rfl rfl <| bndE h fun v3 e1 h => r_callp rfl (item_Field_c e1) (CoL.refl _) rfl <| ARun.qv (q_not rfl) rfl <| rM rfl rfl <| ARun.guard rfl rfl rfl (fun hc => ?_) (fun hc => ?_)
    · refine have h := iteFb hc h; rF rfl rfl rfl <| rY rfl rfl rfl <| rL rfl rfl .p0 rfl rfl <| rY rfl rfl rfl <| ARun.qv (q_eql rfl rfl) rfl <| rY rfl rfl rfl <| rM rfl rfl <| ARun.guard_dt rfl rfl rfl (fun hc => ?_) (fun hc => ?_)
      · refine have h := iteT hc h; rF rfl rfl rfl <| rY rfl rfl rfl <| rL rfl rfl .p0 rfl rfl <| rY rfl rfl rfl <| bndE h fun v4 e2 h => r_callp rfl (item_isTag_c e2) (CoL.refl _) rfl <| rY rfl rfl rfl <| ARun.qv (q_not rfl) rfl <| rY rfl rfl rfl <| rT rfl rfl rfl <| rY rfl rfl rfl <| rM rfl rfl <| ARun.guard rfl rfl rfl (fun hc => ?_) (fun hc => ?_)
        · exact have h := iteT hc h; rF rfl rfl rfl <| rY rfl rfl rfl <| rL rfl rfl .p0 rfl rfl <| rY rfl rfl rfl <| bndE h fun v5 e3 h => r_callp rfl (item_isProp_c e3) (CoL.refl _) rfl <| rY rfl rfl rfl <| ARun.qv (q_not rfl) rfl <| rY rfl rfl rfl <| rT rfl rfl rfl <| rE rfl rfl rfl <| rN <| ATodo.stop <| ImpX.lq [0] ⟨!v5, h, rfl⟩ rfl rfl
        · exact have h := iteFb hc h; rG rfl rfl rfl rfl <| rG rfl rfl rfl rfl <| rG rfl rfl rfl rfl <| rY rfl rfl rfl <| rE rfl rfl rfl <| rE rfl rfl rfl <| rN <| ATodo.stop <| ImpX.lq [0] ⟨false, h, rfl⟩ rfl rfl
      · exact have h := iteF hc h; rG rfl rfl rfl rfl <| rG rfl rfl rfl rfl <| rG rfl rfl rfl rfl <| rY rfl rfl rfl <| rE rfl rfl rfl <| rY rfl rfl rfl <| rM rfl rfl <| rG rfl rfl rfl rfl <| rG rfl rfl rfl rfl <| rG rfl rfl rfl rfl <| rG rfl rfl rfl rfl <| rY rfl rfl rfl <| rE rfl rfl rfl <| rE rfl rfl rfl <| rN <| ATodo.stop <| ImpX.lq [0] ⟨false, h, rfl⟩ rfl rfl
    · exact have h := iteT hc h; rG rfl rfl rfl rfl <| rG rfl rfl rfl rfl <| rG rfl rfl rfl rfl <| ARun.guard_und rfl rfl rfl <| ARun.guard_und rfl rfl rfl <| ARun.guard_und rfl rfl rfl <| ARun.guard_und rfl rfl rfl <| rG rfl rfl rfl rfl <| rG rfl rfl rfl rfl <| ARun.guard_und rfl rfl rfl <| ARun.guard_und rfl rfl rfl <| ARun.guard_und rfl rfl rfl <| ARun.guard_und rfl rfl rfl <| rG rfl rfl rfl rfl <| rT rfl rfl rfl <| rN <| ATodo.stop <| ImpX.lq [0] ⟨true, h, rfl⟩ rfl rfl
  · rintro σ' ⟨c2, h, rfl⟩
    unfold item_leafFault_j1 at h
    refine ATodo.cond rfl (fun hc => ?_) (fun hc => ?_)
    · refine have h := iteT hc h; tSR <| rA rfl rfl <| rN <| ATodo.ret <| ?_
      obtain rfl := Option.some.inj h
      exact ImpX.here ⟨_, .cons (.tmp _ _ rfl) .nil, rfl⟩
    · refine have h := iteFb hc h; tK <| tS <| tSR <| rF rfl rfl rfl <| rL rfl rfl .p0 rfl rfl <| ARun.qv (q_eql rfl rfl) rfl <| rN <| ATodo.cond_d rfl (fun hc => ?_) (fun hc => ?_)
      · refine have h := iteT hc h; tSR <| rA rfl rfl <| rN <| ATodo.ret <| ?_
        obtain rfl := Option.some.inj h
        exact ImpX.here ⟨_, .cons (.tmp _ _ rfl) .nil, rfl⟩
      · refine have h := iteF hc h; tK <| tSR <| rF rfl rfl rfl <| rL rfl rfl .p0 rfl rfl <| ARun.qv (q_seq rfl rfl) rfl <| rA rfl rfl <| rN <| tS <| ATodo.block <| tS <| ATodo.regionT (id := 6) (A := [0, 0, 2, 7, 15, 31]) (H0 := []) (HH := fun β => [((β 0), .arr 1 (item_Operations.map AV.str)), (b1, .cells [I p0x0.Kind, .str p0x0.Field, .str p0x0.Op, I p0x0.Value.Kind, .bool p0x0.Value.Flag, I p0x0.Value.Number, .str p0x0.Value.Words, I p0x0.Version.Major, I p0x0.Version.Minor, I p0x0.Version.Patch, .list 11 (p0x0.Kids.map Query.av)])]) 3 mixed rfl (by kernel_rfl) (by kernel_rfl) [⟨some 0, none, [], fun b => (b, .arr 1 (item_Operations.map AV.str)), none⟩] [0] rfl (by kernel_rfl) rfl .nil (fun _ => rfl) <| AT.runD (V := fun b => .sl 1 b 0 item_Operations.length) (Ti := []) (Pi := fun b => [(b, .arr 1 (item_Operations.map AV.str))]) (fun _ => rfl) (fun _ => rfl) (fun _ _ => rfl) rfl (fun _ => rfl) rfl rfl rfl ?_ ?_
        · exact t_call1 rfl (item_Operations_c rfl) (CoL.refl _) .nil (fun _ => rfl) rfl fun b6 => ARun.nil ⟨b6, _, rfl, rfl⟩
        refine AT.am 2 rfl rfl <| AM.qv (n_field_ptr rfl rfl) rfl <| AM.qv (q_load_ptr rfl rfl .p0 rfl) rfl <| AM.nil <| AT.nilN (fun _ => rfl) fun β => ?_
        generalize β 0 = b6
        clear β
        refine bndE h fun v7 e4 h => r_callpB rfl (slices_Contains_string_string_c e4) (.cons (CoB.arrT .p0) (.cons (.co (.refl _)) .nil)) rfl rfl <| ARun.qv (q_not rfl) rfl <| rA rfl rfl <| rN <| ATodo.cond rfl (fun hc => ?_) (fun hc => ?_)
        · refine have h := iteT hc h; tSR <| rA rfl rfl <| rN <| ATodo.ret <| ?_
          obtain rfl := Option.some.inj h
          exact ImpX.here ⟨_, .cons (.tmp _ _ rfl) .nil, rfl⟩
        · refine have h := iteFb hc h; tS <| ATodo.cut (fun σ' => ∃ (c8 : Bool), item_leafFault_j2 p0x0 c8 = some r ∧ σ' = ⟨98, [(1, .ptr b1 0), (3, .bool (decide (p0x0.Field = ([102, 105, 114, 109, 119, 97, 114, 101] : Str)))), (37, .bool c8)], [(b1, .cells [I p0x0.Kind, .str p0x0.Field, .str p0x0.Op, I p0x0.Value.Kind, .bool p0x0.Value.Flag, I p0x0.Value.Number, .str p0x0.Value.Words, I p0x0.Version.Major, I p0x0.Version.Minor, I p0x0.Version.Patch, .list 11 (p0x0.Kids.map Query.av)])]⟩) ?_ ?_
          · refine tR <| rM rfl rfl <| rM rfl rfl <| ARun.guard_dt rfl rfl rfl (fun hc => ?_) (fun hc => ?_)
            · rw [andTd hc] at h
              exact rF rfl rfl rfl <| rY rfl rfl rfl <| ARun.qv (n_load_ptr_part rfl rfl .p1 rfl rfl) rfl <| rY rfl rfl rfl <| ARun.qv (n_build rfl rfl rfl rfl rfl) rfl <| rY rfl rfl rfl <| ARun.qv (t_tne (g := ValueS.av) (X := p0x0.Value) (Y := (⟨(0 : Int), false, (0 : Int), []⟩ : ValueS)) rfl rfl rfl rfl rfl) rfl <| rT rfl rfl rfl <| rA rfl rfl <| rN <| ATodo.stop <| ImpX.lq [1] ⟨decide (p0x0.Value ≠ (⟨(0 : Int), false, (0 : Int), []⟩ : ValueS)), h, rfl⟩ rfl rfl
            · rw [andFd hc] at h
              exact rG rfl rfl rfl rfl <| rG rfl rfl rfl rfl <| rG rfl rfl rfl rfl <| rE rfl rfl rfl <| rA rfl rfl <| rN <| ATodo.stop <| ImpX.lq [1] ⟨false, h, rfl⟩ rfl rfl
          · rintro σ' ⟨c8, h, rfl⟩
            unfold item_leafFault_j2 at h
            refine ATodo.cond rfl (fun hc => ?_) (fun hc => ?_)
            · refine have h := iteT hc h; tSR <| rA rfl rfl <| rN <| ATodo.ret <| ?_
              obtain rfl := Option.some.inj h
              exact ImpX.here ⟨_, .cons (.tmp _ _ rfl) .nil, rfl⟩
            · refine have h := iteFb hc h; tS <| ATodo.cut (fun σ' => ∃ (c9 : Bool), item_leafFault_j3 p0x0 c9 = some r ∧ σ' = ⟨98, [(1, .ptr b1 0), (3, .bool (decide (p0x0.Field = ([102, 105, 114, 109, 119, 97, 114, 101] : Str)))), (45, .bool c9)], [(b1, .cells [I p0x0.Kind, .str p0x0.Field, .str p0x0.Op, I p0x0.Value.Kind, .bool p0x0.Value.Flag, I p0x0.Value.Number, .str p0x0.Value.Words, I p0x0.Version.Major, I p0x0.Version.Minor, I p0x0.Version.Patch, .list 11 (p0x0.Kids.map Query.av)])]⟩) ?_ ?_
              · refine tR <| rM rfl rfl <| rM rfl rfl <| ARun.guard_dt rfl rfl rfl (fun hc => ?_) (fun hc => ?_)
                · rw [andTd hc] at h
                  exact rF rfl rfl rfl <| rY rfl rfl rfl <| ARun.qv (n_load_ptr_part rfl rfl .p0 rfl rfl) rfl <| rY rfl rfl rfl <| r_callp rfl (base_Version_c rfl) (CoL.refl _) rfl <| rY rfl rfl rfl <| ARun.qv (q_not rfl) rfl <| rT rfl rfl rfl <| rA rfl rfl <| rN <| ATodo.stop <| ImpX.lq [0] ⟨!(base_Version p0x0.Version), h, rfl⟩ rfl rfl
                · rw [andFd hc] at h
                  exact rG rfl rfl rfl rfl <| rG rfl rfl rfl rfl <| rG rfl rfl rfl rfl <| rE rfl rfl rfl <| rA rfl rfl <| rN <| ATodo.stop <| ImpX.lq [0] ⟨false, h, rfl⟩ rfl rfl
              · rintro σ' ⟨c9, h, rfl⟩
                unfold item_leafFault_j3 at h
                refine ATodo.cond rfl (fun hc => ?_) (fun hc => ?_)
                · refine have h := iteT hc h; tSR <| rA rfl rfl <| rN <| ATodo.ret <| ?_
                  obtain rfl := Option.some.inj h
                  exact ImpX.here ⟨_, .cons (.tmp _ _ rfl) .nil, rfl⟩
                · refine have h := iteFb hc h; tSR <| rM rfl rfl <| rA rfl rfl <| rN <| ATodo.cond_d rfl (fun hc => ?_) (fun hc => ?_)
                  · refine have h := iteT hc h; tSR <| rA rfl rfl <| rN <| ATodo.ret <| ?_
                    obtain rfl := Option.some.inj h
                    exact ImpX.here ⟨_, .cons (.tmp _ _ rfl) .nil, rfl⟩
                  · refine have h := iteF hc h; tS <| ATodo.cut (fun σ' => ∃ (c10 : Bool), item_leafFault_j4 p0x0 c10 = some r ∧ σ' = ⟨98, [(1, .ptr b1 0), (55, .bool c10)], [(b1, .cells [I p0x0.Kind, .str p0x0.Field, .str p0x0.Op, I p0x0.Value.Kind, .bool p0x0.Value.Flag, I p0x0.Value.Number, .str p0x0.Value.Words, I p0x0.Version.Major, I p0x0.Version.Minor, I p0x0.Version.Patch, .list 11 (p0x0.Kids.map Query.av)])]⟩) ?_ ?_
                    · refine tR <| rF rfl rfl rfl <| ARun.qv (n_load_ptr_part rfl rfl .p0 rfl rfl) rfl <| ARun.qv (n_build rfl rfl rfl rfl rfl) rfl <| ARun.qv (t_tne (g := Version.av) (X := p0x0.Version) (Y := (⟨(0 : Int), (0 : Int), (0 : Int)⟩ : Version)) rfl rfl rfl rfl rfl) rfl <| rM rfl rfl <| ARun.guard_df rfl rfl rfl (fun hc => ?_) (fun hc => ?_)
                      · refine have h := iteF hc h; rF rfl rfl rfl <| rY rfl rfl rfl <| ARun.qv (n_load_ptr_part rfl rfl .p0 rfl rfl) rfl <| rY rfl rfl rfl <| bndE h fun v11 e5 h => r_callp rfl (item_Right_c e5) (CoL.refl _) rfl <| rY rfl rfl rfl <| ARun.qv (q_not rfl) rfl <| rE rfl rfl rfl <| rM rfl rfl <| ARun.guard rfl rfl rfl (fun hc => ?_) (fun hc => ?_)
                        · rw [orFb hc] at h
                          exact rF rfl rfl rfl <| rY rfl rfl rfl <| rF rfl rfl rfl <| rY rfl rfl rfl <| rL rfl rfl .p0 rfl rfl <| rY rfl rfl rfl <| ARun.qv (q_eql rfl rfl) rfl <| rE rfl rfl rfl <| rA rfl rfl <| rN <| ATodo.stop <| ImpX.lq [0] ⟨decide (p0x0.Value.Kind = (0 : Int)), h, rfl⟩ rfl rfl
                        · rw [orTb hc] at h
                          exact rG rfl rfl rfl rfl <| rG rfl rfl rfl rfl <| rG rfl rfl rfl rfl <| rT rfl rfl rfl <| rA rfl rfl <| rN <| ATodo.stop <| ImpX.lq [0] ⟨true, h, rfl⟩ rfl rfl
                      · exact have h := iteT hc h; rG rfl rfl rfl rfl <| rG rfl rfl rfl rfl <| rG rfl rfl rfl rfl <| rT rfl rfl rfl <| rM rfl rfl <| rG rfl rfl rfl rfl <| rG rfl rfl rfl rfl <| rG rfl rfl rfl rfl <| rG rfl rfl rfl rfl <| rT rfl rfl rfl <| rA rfl rfl <| rN <| ATodo.stop <| ImpX.lq [0] ⟨true, h, rfl⟩ rfl rfl
                    · rintro σ' ⟨c10, h, rfl⟩
                      unfold item_leafFault_j4 at h
                      refine ATodo.cond rfl (fun hc => ?_) (fun hc => ?_)
                      · refine have h := iteT hc h; tSR <| rA rfl rfl <| rN <| ATodo.ret <| ?_
                        obtain rfl := Option.some.inj h
                        exact ImpX.here ⟨_, .cons (.tmp _ _ rfl) .nil, rfl⟩
                      · refine have h := iteFb hc h; tS <| ATodo.cut (fun σ' => ∃ (c12 : Bool), item_leafFault_j5 p0x0 c12 = some r ∧ σ' = ⟨98, [(1, .ptr b1 0), (72, .bool c12)], [(b1, .cells [I p0x0.Kind, .str p0x0.Field, .str p0x0.Op, I p0x0.Value.Kind, .bool p0x0.Value.Flag, I p0x0.Value.Number, .str p0x0.Value.Words, I p0x0.Version.Major, I p0x0.Version.Minor, I p0x0.Version.Patch, .list 11 (p0x0.Kids.map Query.av)])]⟩) ?_ ?_
                        · refine tR <| rF rfl rfl rfl <| rF rfl rfl rfl <| rL rfl rfl .p0 rfl rfl <| ARun.qv (q_neq rfl rfl) rfl <| rM rfl rfl <| ARun.guard_dt rfl rfl rfl (fun hc => ?_) (fun hc => ?_)
                          · exact have h := iteT hc h; rF rfl rfl rfl <| rY rfl rfl rfl <| rL rfl rfl .p0 rfl rfl <| rY rfl rfl rfl <| bndE h fun v13 e6 h => r_callp rfl (item_isProp_c e6) (CoL.refl _) rfl <| rY rfl rfl rfl <| ARun.qv (q_not rfl) rfl <| rT rfl rfl rfl <| rA rfl rfl <| rN <| ATodo.stop <| ImpX.lq [0] ⟨!v13, h, rfl⟩ rfl rfl
                          · exact have h := iteF hc h; rG rfl rfl rfl rfl <| rG rfl rfl rfl rfl <| rG rfl rfl rfl rfl <| rE rfl rfl rfl <| rA rfl rfl <| rN <| ATodo.stop <| ImpX.lq [0] ⟨false, h, rfl⟩ rfl rfl
                        · rintro σ' ⟨c12, h, rfl⟩
                          unfold item_leafFault_j5 at h
                          refine ATodo.cond rfl (fun hc => ?_) (fun hc => ?_)
                          · refine have h := iteT hc h; tSR <| rA rfl rfl <| rN <| ATodo.ret <| ?_
                            obtain rfl := Option.some.inj h
                            exact ImpX.here ⟨_, .cons (.tmp _ _ rfl) .nil, rfl⟩
                          · refine have h := iteFb hc h; tS <| ATodo.cut (fun σ' => ∃ (c14 : Bool), item_leafFault_j6 c14 = some r ∧ σ' = ⟨98, [(83, .bool c14)], []⟩) ?_ ?_
                            · refine tR <| rF rfl rfl rfl <| rF rfl rfl rfl <| rL rfl rfl .p0 rfl rfl <| ARun.qv (q_neq rfl rfl) rfl <| rM rfl rfl <| ARun.guard_dt rfl rfl rfl (fun hc => ?_) (fun hc => ?_)
                              · rw [andTd hc] at h
                                refine rF rfl rfl rfl <| rY rfl rfl rfl <| rL rfl rfl .p0 rfl rfl <| rY rfl rfl rfl <| ARun.qv (q_sne rfl rfl) rfl <| rT rfl rfl rfl <| rM rfl rfl <| ARun.guard_dt rfl rfl rfl (fun hc => ?_) (fun hc => ?_)
                                · rw [andTd hc] at h
                                  exact rF rfl rfl rfl <| rY rfl rfl rfl <| rL rfl rfl .p0 rfl rfl <| rY rfl rfl rfl <| ARun.qv (q_sne rfl rfl) rfl <| rT rfl rfl rfl <| rA rfl rfl <| rN <| ATodo.stop <| ImpX.lq [] ⟨decide (p0x0.Op ≠ ([33, 61] : Str)), h, rfl⟩ rfl rfl
                                · rw [andFd hc] at h
                                  exact rG rfl rfl rfl rfl <| rG rfl rfl rfl rfl <| rE rfl rfl rfl <| rA rfl rfl <| rN <| ATodo.stop <| ImpX.lq [] ⟨false, h, rfl⟩ rfl rfl
                              · rw [andFd hc] at h
                                exact rG rfl rfl rfl rfl <| rG rfl rfl rfl rfl <| rE rfl rfl rfl <| rM rfl rfl <| rG rfl rfl rfl rfl <| rG rfl rfl rfl rfl <| rG rfl rfl rfl rfl <| rE rfl rfl rfl <| rA rfl rfl <| rN <| ATodo.stop <| ImpX.lq [] ⟨false, h, rfl⟩ rfl rfl
                            · rintro σ' ⟨c14, h, rfl⟩
                              unfold item_leafFault_j6 at h
                              refine ATodo.cond rfl (fun hc => ?_) (fun hc => ?_)
                              · refine have h := iteT hc h; tSR <| rA rfl rfl <| rN <| ATodo.ret <| ?_
                                obtain rfl := Option.some.inj h
                                exact ImpX.here ⟨_, .cons (.tmp _ _ rfl) .nil, rfl⟩
                              · refine have h := iteFb hc h; tK <| ATodo.blk <| tSR <| rA rfl rfl <| rN <| ATodo.ret <| ?_
                                obtain rfl := Option.some.inj h
                                exact ImpX.here ⟨_, .cons (.tmp _ _ rfl) .nil, rfl⟩

set_option maxHeartbeats 4000000 in
theorem item_partFault_bd_c {self : Query → Option Int} (self_h : ∀ {p0x0 : Query} {r : Int}, self p0x0 = some r → Pu Tryz.prog 212 [.agg [I p0x0.Kind, .str p0x0.Field, .str p0x0.Op, I p0x0.Value.Kind, .bool p0x0.Value.Flag, I p0x0.Value.Number, .str p0x0.Value.Words, I p0x0.Version.Major, I p0x0.Version.Minor, I p0x0.Version.Patch, .list 11 (p0x0.Kids.map Query.av)]] (I r)) {p0x0 : Query} {r : Int} (h : item_partFault_bd self p0x0 = some r) : Pu Tryz.prog 212 [.agg [I p0x0.Kind, .str p0x0.Field, .str p0x0.Op, I p0x0.Value.Kind, .bool p0x0.Value.Flag, I p0x0.Value.Number, .str p0x0.Value.Words, I p0x0.Version.Major, I p0x0.Version.Minor, I p0x0.Version.Patch, .list 11 (p0x0.Kids.map Query.av)]] (I r) := by
  unfold item_partFault_bd at h
  refine ACall.bodyN Tryz.func212 rfl Tryz.ntmps212 Tryz.results212 rfl rfl ?_
  refine tSR <| n_box rfl rfl rfl rfl fun b1 => rA rfl rfl <| rN <| tS <| tSR <| ARun.qv (q_load_ptr_all rfl rfl .p0 rfl) rfl <| bndE h fun v2 e1 h => r_callp rfl (item_formFault_c e1) (CoL.refl _) rfl <| rA rfl rfl <| rN <| tSR <| rM rfl rfl <| ARun.qv (q_neq rfl rfl) rfl <| rN <| ATodo.cond_d rfl (fun hc => ?_) (fun hc => ?_)
  · refine have h := iteT hc h; tSR <| rM rfl rfl <| rA rfl rfl <| rN <| ATodo.ret <| ?_
    obtain rfl := Option.some.inj h
    exact ImpX.here ⟨_, .cons (.tmp _ _ rfl) .nil, rfl⟩
  · refine have h := iteF hc h; tK <| tS <| tS <| ATodo.cut (fun σ' => ∃ (c3 : Bool), item_partFault_j1 self p0x0 c3 = some r ∧ σ' = ⟨35, [(1, .ptr b1 0), (19, .bool c3)], [(b1, .cells [I p0x0.Kind, .str p0x0.Field, .str p0x0.Op, I p0x0.Value.Kind, .bool p0x0.Value.Flag, I p0x0.Value.Number, .str p0x0.Value.Words, I p0x0.Version.Major, I p0x0.Version.Minor, I p0x0.Version.Patch, .list 11 (p0x0.Kids.map Query.av)])]⟩) ?_ ?_
    · refine tR <| rF rfl rfl rfl <| rL rfl rfl .p0 rfl rfl <| ARun.qv (q_eql rfl rfl) rfl <| rM rfl rfl <| ARun.guard_df rfl rfl rfl (fun hc => ?_) (fun hc => ?_)
      · rw [orFd hc] at h
        exact rF rfl rfl rfl <| rY rfl rfl rfl <| rL rfl rfl .p0 rfl rfl <| rY rfl rfl rfl <| ARun.qv (q_eql rfl rfl) rfl <| rE rfl rfl rfl <| rN <| ATodo.stop <| ImpX.lq [0] ⟨decide (p0x0.Kind = (2 : Int)), h, rfl⟩ rfl rfl
      · rw [orTd hc] at h
        exact rG rfl rfl rfl rfl <| rG rfl rfl rfl rfl <| rT rfl rfl rfl <| rN <| ATodo.stop <| ImpX.lq [0] ⟨true, h, rfl⟩ rfl rfl
    · rintro σ' ⟨c3, h, rfl⟩
      unfold item_partFault_j1 at h
      refine ATodo.cond rfl (fun hc => ?_) (fun hc => ?_)
      · refine have h := iteT hc h; tSR <| ARun.qv (q_load_ptr_all rfl rfl .p0 rfl) rfl <| bndE h fun v4 e2 h => r_callp rfl (item_leafFault_c e2) (CoL.refl _) rfl <| rA rfl rfl <| rN <| ATodo.ret <| ?_
        obtain rfl := Option.some.inj h
        exact ImpX.here ⟨_, .cons (.tmp _ _ rfl) .nil, rfl⟩
      · refine have h := iteFb hc h; tK <| tS <| tSR <| rF rfl rfl rfl <| rL rfl rfl .p0 rfl rfl <| ARun.qv (t_len rfl) rfl <| rM rfl rfl <| rN <| ATodo.block <| ATodo.loopI (fun x : Int => item_partFault_b1 self p0x0 x) (fun x σ' => σ' = ⟨35, [(23, .list 11 (p0x0.Kids.map Query.av)), (24, I (p0x0.Kids.length : Int)), (25, I x)], []⟩) h ?_ ?_
        · exact ImpX.lq [] rfl rfl rfl
        · intro n6 z1 σ' J1 hmk h hJ1 hA1
          obtain rfl := hmk
          replace h : item_partFault_b1 self p0x0 n6 = some z1 := h
          unfold item_partFault_b1 at h
          refine tSR <| ARun.qv (q_lss rfl rfl) rfl <| rN <| tS <| ATodo.cond_d rfl (fun hc => ?_) (fun hc => ?_)
          · refine have h := iteT hc h; tK <| tS <| ATodo.block <| tSR <| bndE h fun v7 e3 h => ARun.qv (t_index rfl rfl rfl e3 rfl (by rw [Query.av_eq]; rfl)) rfl <| ARun.qv (q_load_rptr_agg rfl rfl rfl) rfl <| n_alloc rfl rfl rfl rfl fun b8 => n_store_ptr rfl rfl rfl rfl .p0 rfl rfl <| rN <| tSR <| ARun.qv (q_load_ptr_all rfl rfl .p0 rfl) rfl <| bndE h fun v9 e4 h => r_callp rfl (self_h e4) (CoL.refl _) rfl <| rA rfl rfl <| rN <| tSR <| rM rfl rfl <| ARun.qv (q_neq rfl rfl) rfl <| rN <| ATodo.cond_d rfl (fun hc => ?_) (fun hc => ?_)
            · refine have h := iteT hc h; tSR <| rM rfl rfl <| rA rfl rfl <| rN <| ATodo.ret <| have h := outL h hA1; ?_
              obtain rfl := Option.some.inj h
              exact ImpX.here ⟨_, .cons (.tmp _ _ rfl) .nil, rfl⟩
            · refine have h := iteF hc h; tK <| ATodo.blk <| tR <| ARun.qv (q_addw rfl rfl) rfl <| rM rfl rfl <| rN <| ATodo.stop <| ?_
              obtain rfl := Option.some.inj h
              exact hJ1 _ _ rfl <| ImpX.lq [] rfl rfl rfl
          · refine have h := iteF hc h; ATodo.exit rfl <| have h := outL h hA1; tSR <| rA rfl rfl <| rN <| ATodo.ret <| ?_
            obtain rfl := Option.some.inj h
            exact ImpX.here ⟨_, .cons (.tmp _ _ rfl) .nil, rfl⟩
theorem item_partFault_r_c : ∀ (k : Nat) {p0x0 : Query} {r : Int}, item_partFault_r k p0x0 = some r → Pu Tryz.prog 212 [.agg [I p0x0.Kind, .str p0x0.Field, .str p0x0.Op, I p0x0.Value.Kind, .bool p0x0.Value.Flag, I p0x0.Value.Number, .str p0x0.Value.Words, I p0x0.Version.Major, I p0x0.Version.Minor, I p0x0.Version.Patch, .list 11 (p0x0.Kids.map Query.av)]] (I r) := by
  intro k
  induction k with
  | zero => intro p0x0 r h; cases h
  | succ k ih => intro p0x0 r h; exact item_partFault_bd_c ih h
theorem item_partFault_c {p0x0 : Query} {r : Int} (h : item_partFault p0x0 = some r) : Pu Tryz.prog 212 [.agg [I p0x0.Kind, .str p0x0.Field, .str p0x0.Op, I p0x0.Value.Kind, .bool p0x0.Value.Flag, I p0x0.Value.Number, .str p0x0.Value.Words, I p0x0.Version.Major, I p0x0.Version.Minor, I p0x0.Version.Patch, .list 11 (p0x0.Kids.map Query.av)]] (I r) := item_partFault_r_c depth h

set_option maxHeartbeats 4000000 in
theorem item_QueryFault_c {p0x0 : Query} {r : Int} (h : item_QueryFault p0x0 = some r) : Pu Tryz.prog 171 [.agg [I p0x0.Kind, .str p0x0.Field, .str p0x0.Op, I p0x0.Value.Kind, .bool p0x0.Value.Flag, I p0x0.Value.Number, .str p0x0.Value.Words, I p0x0.Version.Major, I p0x0.Version.Minor, I p0x0.Version.Patch, .list 11 (p0x0.Kids.map Query.av)]] (I r) := by
  unfold item_QueryFault at h
  refine ACall.bodyN Tryz.func171 rfl Tryz.ntmps171 Tryz.results171 rfl rfl ?_
  refine tSR <| n_box rfl rfl rfl rfl fun b1 => rA rfl rfl <| rN <| tS <| tSR <| ARun.qv (q_load_ptr_all rfl rfl .p0 rfl) rfl <| bndE h fun v2 e1 h => r_callp rfl (item_Measure_c e1) (CoL.refl _) rfl <| rM rfl rfl <| rX rfl rfl rfl <| rX rfl rfl rfl <| rA rfl rfl <| rA rfl rfl <| rN <| tS <| ATodo.cut (fun σ' => ∃ (c3 : Bool), item_QueryFault_j1 p0x0 c3 = some r ∧ σ' = ⟨18, [(1, .ptr b1 0), (15, .bool c3)], [(b1, .cells [I p0x0.Kind, .str p0x0.Field, .str p0x0.Op, I p0x0.Value.Kind, .bool p0x0.Value.Flag, I p0x0.Value.Number, .str p0x0.Value.Words, I p0x0.Version.Major, I p0x0.Version.Minor, I p0x0.Version.Patch, .list 11 (p0x0.Kids.map Query.av)])]⟩) ?_ ?_
  · refine tR <| rM rfl rfl <| ARun.qv (q_gtr rfl rfl) rfl <| rM rfl rfl <| ARun.guard_df rfl rfl rfl (fun hc => ?_) (fun hc => ?_)
    · rw [orFd hc] at h
      exact rM rfl rfl <| rY rfl rfl rfl <| ARun.qv (q_gtr rfl rfl) rfl <| rE rfl rfl rfl <| rN <| ATodo.stop <| ImpX.lq [0] ⟨decide ((20 : Int) < v2.2), h, rfl⟩ rfl rfl
    · rw [orTd hc] at h
      exact rG rfl rfl rfl rfl <| rT rfl rfl rfl <| rN <| ATodo.stop <| ImpX.lq [0] ⟨true, h, rfl⟩ rfl rfl
  · rintro σ' ⟨c3, h, rfl⟩
    unfold item_QueryFault_j1 at h
    refine ATodo.cond rfl (fun hc => ?_) (fun hc => ?_)
    · refine have h := iteT hc h; tSR <| rA rfl rfl <| rN <| ATodo.ret <| ?_
      obtain rfl := Option.some.inj h
      exact ImpX.here ⟨_, .cons (.tmp _ _ rfl) .nil, rfl⟩
    · refine have h := iteFb hc h; tK <| tSR <| ARun.qv (q_load_ptr_all rfl rfl .p0 rfl) rfl <| bndE h fun v4 e2 h => r_callp rfl (item_partFault_c e2) (CoL.refl _) rfl <| rA rfl rfl <| rN <| ATodo.ret <| ?_
      obtain rfl := Option.some.inj h
      exact ImpX.here ⟨_, .cons (.tmp _ _ rfl) .nil, rfl⟩

set_option maxHeartbeats 4000000 in
theorem device_CheckQuery_c {p0x0 : Query} {r : Int} (h : device_CheckQuery p0x0 = some r) : Pu Tryz.prog 116 [.agg [I p0x0.Kind, .str p0x0.Field, .str p0x0.Op, I p0x0.Value.Kind, .bool p0x0.Value.Flag, I p0x0.Value.Number, .str p0x0.Value.Words, I p0x0.Version.Major, I p0x0.Version.Minor, I p0x0.Version.Patch, .list 11 (p0x0.Kids.map Query.av)]] (I r) := by
  unfold device_CheckQuery at h
  refine ACall.bodyN Tryz.func116 rfl Tryz.ntmps116 Tryz.results116 rfl rfl ?_
  refine tSR <| n_box rfl rfl rfl rfl fun b1 => rA rfl rfl <| rN <| tSR <| ARun.qv (q_load_ptr_all rfl rfl .p0 rfl) rfl <| bndE h fun v2 e1 h => r_callp rfl (item_QueryFault_c e1) (CoL.refl _) rfl <| rA rfl rfl <| rN <| ATodo.ret <| ?_
  obtain rfl := Option.some.inj h
  exact ImpX.here ⟨_, .cons (.tmp _ _ rfl) .nil, rfl⟩

set_option maxHeartbeats 4000000 in
theorem base_Unmarked_c {p0x0 : Str} {r : Bool} (h : base_Unmarked p0x0 = some r) : Pu Tryz.prog 243 [.str p0x0] (.bool r) := by
  unfold base_Unmarked at h
  refine ACall.bodyN Tryz.func243 rfl Tryz.ntmps243 Tryz.results243 rfl rfl ?_
  refine tSR <| rA rfl rfl <| rN <| tS <| tSR <| rM rfl rfl <| ARun.qv (q_len_str rfl) rfl <| rM rfl rfl <| rN <| ATodo.block <| ATodo.loopI (fun x : Int => base_Unmarked_b1 p0x0 x) (fun x σ' => σ' = ⟨22, [(0, .str p0x0), (5, I (p0x0.length : Int)), (6, I x)], []⟩) h ?_ ?_
  · exact ImpX.lq [] rfl rfl rfl
  · intro n2 z1 σ' J1 hmk h hJ1 hA1
    obtain rfl := hmk
    replace h : base_Unmarked_b1 p0x0 n2 = some z1 := h
    unfold base_Unmarked_b1 at h
    refine tSR <| ARun.qv (q_lss rfl rfl) rfl <| rN <| tS <| ATodo.cond_d rfl (fun hc => ?_) (fun hc => ?_)
    · refine have h := iteT hc h; tK <| tS <| ATodo.block <| tSR <| rM rfl rfl <| rA rfl rfl <| rN <| tS <| ATodo.cut (fun σ' => ∃ (c3 : Bool), base_Unmarked_j1 n2 c3 = some z1 ∧ σ' = ⟨22, [(0, .str p0x0), (5, I (p0x0.length : Int)), (6, I n2), (18, .bool c3)], []⟩) ?_ ?_
      · refine tR <| rM rfl rfl <| rM rfl rfl <| bndE h fun c4 e1 h => ARun.qv (t_index_str rfl rfl e1) rfl <| ARun.qv (q_lss rfl rfl) rfl <| rM rfl rfl <| ARun.guard_df rfl rfl rfl (fun hc => ?_) (fun hc => ?_)
        · exact have h := iteF hc h; rM rfl rfl <| rY rfl rfl rfl <| rM rfl rfl <| rY rfl rfl rfl <| bndE h fun c5 e2 h => ARun.qv (t_index_str rfl rfl e2) rfl <| rY rfl rfl rfl <| ARun.qv (q_eql rfl rfl) rfl <| rE rfl rfl rfl <| rN <| ATodo.stop <| ImpX.lq [] ⟨decide ((c5.toNat : Int) = (127 : Int)), h, rfl⟩ rfl rfl
        · exact have h := iteT hc h; rG rfl rfl rfl rfl <| rG rfl rfl rfl rfl <| rG rfl rfl rfl rfl <| rT rfl rfl rfl <| rN <| ATodo.stop <| ImpX.lq [] ⟨true, h, rfl⟩ rfl rfl
      · rintro σ' ⟨c3, h, rfl⟩
        unfold base_Unmarked_j1 at h
        refine ATodo.cond rfl (fun hc => ?_) (fun hc => ?_)
        · refine have h := iteT hc h; tSR <| rA rfl rfl <| rN <| ATodo.ret <| have h := outL h hA1; ?_
          obtain rfl := Option.some.inj h
          exact ImpX.here ⟨_, .cons (.tmp _ _ rfl) .nil, rfl⟩
        · refine have h := iteFb hc h; tK <| ATodo.blk <| tR <| ARun.qv (q_addw rfl rfl) rfl <| rM rfl rfl <| rN <| ATodo.stop <| ?_
          obtain rfl := Option.some.inj h
          exact hJ1 _ _ rfl <| ImpX.lq [] rfl rfl rfl
    · refine have h := iteF hc h; ATodo.exit rfl <| have h := outL h hA1; ?_
      unfold base_Unmarked_k2 at h
      refine tSR <| rM rfl rfl <| bndE h fun v6 e3 h => r_callp rfl (utf8_ValidString_c e3) (CoL.refl _) rfl <| rA rfl rfl <| rN <| ATodo.ret <| ?_
      obtain rfl := Option.some.inj h
      exact ImpX.here ⟨_, .cons (.tmp _ _ rfl) .nil, rfl⟩

set_option maxHeartbeats 4000000 in
theorem strings_HasPrefix_c [GI : GTab] {p0x0 : Str} {p1x0 : Str} {r : Bool} (h : strings_HasPrefix p0x0 p1x0 = some r) : Pu Tryz.prog 144 [.str p0x0, .str p1x0] (.bool r) := by
  unfold strings_HasPrefix at h
  refine ACall.bodyN Tryz.func144 rfl Tryz.ntmps144 Tryz.results144 rfl rfl ?_
  refine tSR <| rA rfl rfl <| rN <| tSR <| rM rfl rfl <| rM rfl rfl <| bndE h fun v1 e1 h => r_callp rfl (internal_stringslite_HasPrefix_c e1) (CoL.refl _) rfl <| rA rfl rfl <| rN <| ATodo.ret <| ?_
  obtain rfl := Option.some.inj h
  exact ImpX.here ⟨_, .cons (.tmp _ _ rfl) .nil, rfl⟩

set_option maxHeartbeats 4000000 in
theorem internal_stringslite_HasSuffix_c [GI : GTab] {p0x0 : Str} {p1x0 : Str} {r : Bool} (h : internal_stringslite_HasSuffix p0x0 p1x0 = some r) : Pu Tryz.prog 232 [.str p0x0, .str p1x0] (.bool r) := by
  unfold internal_stringslite_HasSuffix at h
  refine ACall.bodyN Tryz.func232 rfl Tryz.ntmps232 Tryz.results232 rfl rfl ?_
  refine tSR <| rA rfl rfl <| rN <| tS <| ATodo.cut (fun σ' => ∃ (c1 : Bool), internal_stringslite_HasSuffix_j1 c1 = some r ∧ σ' = ⟨21, [(4, .bool c1)], []⟩) ?_ ?_
  · refine tR <| rM rfl rfl <| ARun.qv (q_len_str rfl) rfl <| rM rfl rfl <| ARun.qv (q_len_str rfl) rfl <| ARun.qv (q_geq rfl rfl) rfl <| rM rfl rfl <| ARun.guard_dt rfl rfl rfl (fun hc => ?_) (fun hc => ?_)
    · exact have h := iteT hc h; rM rfl rfl <| rY rfl rfl rfl <| rM rfl rfl <| rY rfl rfl rfl <| ARun.qv (q_len_str rfl) rfl <| rY rfl rfl rfl <| rM rfl rfl <| rY rfl rfl rfl <| ARun.qv (q_len_str rfl) rfl <| rY rfl rfl rfl <| ARun.qv (q_subw rfl rfl) rfl <| rY rfl rfl rfl <| bndE h fun l2 e1 h => ARun.qv (t_slice_str rfl (.some _ _ _ rfl) .none rfl rfl e1) rfl <| rY rfl rfl rfl <| rM rfl rfl <| rY rfl rfl rfl <| ARun.qv (q_seq rfl rfl) rfl <| rT rfl rfl rfl <| rA rfl rfl <| rN <| ATodo.stop <| ImpX.lq [] ⟨decide (l2 = p1x0), h, rfl⟩ rfl rfl
    · exact have h := iteF hc h; rG rfl rfl rfl rfl <| rG rfl rfl rfl rfl <| rG rfl rfl rfl rfl <| rG rfl rfl rfl rfl <| rG rfl rfl rfl rfl <| rG rfl rfl rfl rfl <| rG rfl rfl rfl rfl <| rG rfl rfl rfl rfl <| rE rfl rfl rfl <| rA rfl rfl <| rN <| ATodo.stop <| ImpX.lq [] ⟨false, h, rfl⟩ rfl rfl
  · rintro σ' ⟨c1, h, rfl⟩
    unfold internal_stringslite_HasSuffix_j1 at h
    refine ATodo.ret <| ?_
    obtain rfl := Option.some.inj h
    exact ImpX.here ⟨_, .cons (.tmp _ _ rfl) .nil, rfl⟩

set_option maxHeartbeats 4000000 in
theorem strings_HasSuffix_c [GI : GTab] {p0x0 : Str} {p1x0 : Str} {r : Bool} (h : strings_HasSuffix p0x0 p1x0 = some r) : Pu Tryz.prog 244 [.str p0x0, .str p1x0] (.bool r) := by
  unfold strings_HasSuffix at h
  refine ACall.bodyN Tryz.func244 rfl Tryz.ntmps244 Tryz.results244 rfl rfl ?_
  refine tSR <| rA rfl rfl <| rN <| tSR <| rM rfl rfl <| rM rfl rfl <| bndE h fun v1 e1 h => r_callp rfl (internal_stringslite_HasSuffix_c e1) (CoL.refl _) rfl <| rA rfl rfl <| rN <| ATodo.ret <| ?_
  obtain rfl := Option.some.inj h
  exact ImpX.here ⟨_, .cons (.tmp _ _ rfl) .nil, rfl⟩

set_option maxHeartbeats 4000000 in
theorem strings_Contains_c {p0x0 : Str} {p1x0 : Str} {r : Bool} (h : strings_Contains p0x0 p1x0 = some r) : Pu Tryz.prog 182 [.str p0x0, .str p1x0] (.bool r) := by
  unfold strings_Contains at h
  refine ACall.bodyN Tryz.func182 rfl Tryz.ntmps182 Tryz.results182 rfl rfl ?_
  refine tSR <| rA rfl rfl <| rN <| tSR <| rM rfl rfl <| rM rfl rfl <| bndE h fun v1 e1 h => r_callp rfl (strings_Index_c e1) (CoL.refl _) rfl <| ARun.qv (q_geq rfl rfl) rfl <| rA rfl rfl <| rN <| ATodo.ret <| ?_
  obtain rfl := Option.some.inj h
  exact ImpX.here ⟨_, .cons (.tmp _ _ rfl) .nil, rfl⟩

set_option maxHeartbeats 4000000 in
theorem base_Plain_c {p0x0 : Str} {r : Bool} (h : base_Plain p0x0 = some r) : Pu Tryz.prog 213 [.str p0x0] (.bool r) := by
  unfold base_Plain at h
  refine ACall.bodyN Tryz.func213 rfl Tryz.ntmps213 Tryz.results213 rfl rfl ?_
  refine tSR <| rA rfl rfl <| rN <| tS <| ATodo.cut (fun σ' => ∃ (c1 : Bool), base_Plain_j1 c1 = some r ∧ σ' = ⟨20, [(2, .bool c1)], []⟩) ?_ ?_
  · refine tR <| rM rfl rfl <| bndE h fun v2 e1 h => r_callp rfl (base_Unmarked_c e1) (CoL.refl _) rfl <| rM rfl rfl <| ARun.guard rfl rfl rfl (fun hc => ?_) (fun hc => ?_)
    · refine have h := iteT hc h; rM rfl rfl <| rY rfl rfl rfl <| bndE h fun v3 e2 h => r_callp rfl (strings_HasPrefix_c e2) (CoL.refl _) rfl <| rY rfl rfl rfl <| ARun.qv (q_not rfl) rfl <| rT rfl rfl rfl <| rM rfl rfl <| ARun.guard rfl rfl rfl (fun hc => ?_) (fun hc => ?_)
      · refine have h := iteT hc h; rM rfl rfl <| rY rfl rfl rfl <| bndE h fun v4 e3 h => r_callp rfl (strings_HasSuffix_c e3) (CoL.refl _) rfl <| rY rfl rfl rfl <| ARun.qv (q_not rfl) rfl <| rT rfl rfl rfl <| rM rfl rfl <| ARun.guard rfl rfl rfl (fun hc => ?_) (fun hc => ?_)
        · exact have h := iteT hc h; rM rfl rfl <| rY rfl rfl rfl <| bndE h fun v5 e4 h => r_callp rfl (strings_Contains_c e4) (CoL.refl _) rfl <| rY rfl rfl rfl <| ARun.qv (q_not rfl) rfl <| rT rfl rfl rfl <| rA rfl rfl <| rN <| ATodo.stop <| ImpX.lq [] ⟨!v5, h, rfl⟩ rfl rfl
        · exact have h := iteFb hc h; rG rfl rfl rfl rfl <| rG rfl rfl rfl rfl <| rE rfl rfl rfl <| rA rfl rfl <| rN <| ATodo.stop <| ImpX.lq [] ⟨false, h, rfl⟩ rfl rfl
      · exact have h := iteFb hc h; rG rfl rfl rfl rfl <| rG rfl rfl rfl rfl <| rE rfl rfl rfl <| rM rfl rfl <| rG rfl rfl rfl rfl <| rG rfl rfl rfl rfl <| rG rfl rfl rfl rfl <| rE rfl rfl rfl <| rA rfl rfl <| rN <| ATodo.stop <| ImpX.lq [] ⟨false, h, rfl⟩ rfl rfl
    · exact have h := iteFb hc h; rG rfl rfl rfl rfl <| rG rfl rfl rfl rfl <| rE rfl rfl rfl <| rM rfl rfl <| rG rfl rfl rfl rfl <| rG rfl rfl rfl rfl <| rG rfl rfl rfl rfl <| rE rfl rfl rfl <| rM rfl rfl <| rG rfl rfl rfl rfl <| rG rfl rfl rfl rfl <| rG rfl rfl rfl rfl <| rE rfl rfl rfl <| rA rfl rfl <| rN <| ATodo.stop <| ImpX.lq [] ⟨false, h, rfl⟩ rfl rfl
  · rintro σ' ⟨c1, h, rfl⟩
    unfold base_Plain_j1 at h
    refine ATodo.ret <| ?_
    obtain rfl := Option.some.inj h
    exact ImpX.here ⟨_, .cons (.tmp _ _ rfl) .nil, rfl⟩

set_option maxHeartbeats 4000000 in
theorem item_TagValue_c {p0x0 : Str} {r : Bool} (h : item_TagValue p0x0 = some r) : Pu Tryz.prog 173 [.str p0x0] (.bool r) := by
  unfold item_TagValue at h
  refine ACall.bodyN Tryz.func173 rfl Tryz.ntmps173 Tryz.results173 rfl rfl ?_
  refine tSR <| rA rfl rfl <| rN <| tS <| ATodo.cut (fun σ' => ∃ (c1 : Bool), item_TagValue_j1 c1 = some r ∧ σ' = ⟨11, [(2, .bool c1)], []⟩) ?_ ?_
  · refine tR <| rM rfl rfl <| ARun.qv (q_len_str rfl) rfl <| r_callp rfl (base_Out_c rfl) (CoL.refl _) rfl <| ARun.qv (q_not rfl) rfl <| rM rfl rfl <| ARun.guard rfl rfl rfl (fun hc => ?_) (fun hc => ?_)
    · exact have h := iteT hc h; rM rfl rfl <| rY rfl rfl rfl <| bndE h fun v2 e1 h => r_callp rfl (base_Plain_c e1) (CoL.refl _) rfl <| rT rfl rfl rfl <| rA rfl rfl <| rN <| ATodo.stop <| ImpX.lq [] ⟨v2, h, rfl⟩ rfl rfl
    · exact have h := iteFb hc h; rG rfl rfl rfl rfl <| rE rfl rfl rfl <| rA rfl rfl <| rN <| ATodo.stop <| ImpX.lq [] ⟨false, h, rfl⟩ rfl rfl
  · rintro σ' ⟨c1, h, rfl⟩
    unfold item_TagValue_j1 at h
    refine ATodo.ret <| ?_
    obtain rfl := Option.some.inj h
    exact ImpX.here ⟨_, .cons (.tmp _ _ rfl) .nil, rfl⟩

set_option maxHeartbeats 4000000 in
theorem item_Fault_c {p0x0 : ItemS} {r : Int} (h : item_Fault p0x0 = some r) : Pu Tryz.prog 117 [.agg [.str p0x0.Device.Key, .str p0x0.Device.Model, .str p0x0.Device.Tenant, I p0x0.Device.Firmware.Major, I p0x0.Device.Firmware.Minor, I p0x0.Device.Firmware.Patch, .list 2 (p0x0.Device.Tags.map Pair.av), .list 5 (p0x0.Props.map PropS.av)]] (I r) := by
  unfold item_Fault at h
  refine ACall.bodyN Tryz.func117 rfl Tryz.ntmps117 Tryz.results117 rfl rfl ?_
  refine tSR <| n_box rfl rfl rfl rfl fun b1 => rA rfl rfl <| rN <| tSR <| rF rfl rfl rfl <| ARun.qv (n_load_ptr_part rfl rfl .p0 rfl rfl) rfl <| n_alloc rfl rfl rfl rfl fun b2 => n_store_ptr rfl rfl rfl rfl .p0 rfl rfl <| rN <| tS <| ATodo.block <| tS <| ATodo.cut (fun σ' => ∃ (c3 : Bool), item_Fault_j1 p0x0 c3 = some r ∧ σ' = ⟨120, [(1, .ptr b1 0), (3, .ptr b2 0), (10, .bool c3)], [(b1, .cells [.str p0x0.Device.Key, .str p0x0.Device.Model, .str p0x0.Device.Tenant, I p0x0.Device.Firmware.Major, I p0x0.Device.Firmware.Minor, I p0x0.Device.Firmware.Patch, .list 2 (p0x0.Device.Tags.map Pair.av), .list 5 (p0x0.Props.map PropS.av)]), (b2, .cells [.str p0x0.Device.Key, .str p0x0.Device.Model, .str p0x0.Device.Tenant, I p0x0.Device.Firmware.Major, I p0x0.Device.Firmware.Minor, I p0x0.Device.Firmware.Patch, .list 2 (p0x0.Device.Tags.map Pair.av)])]⟩) ?_ ?_
  · refine tR <| rF rfl rfl rfl <| rL rfl rfl .p0 rfl rfl <| bndE h fun v4 e1 h => r_callp rfl (base_Key_c e1) (CoL.refl _) rfl <| ARun.qv (q_not rfl) rfl <| rM rfl rfl <| ARun.guard rfl rfl rfl (fun hc => ?_) (fun hc => ?_)
    · refine have h := iteFb hc h; rF rfl rfl rfl <| rY rfl rfl rfl <| rL rfl rfl .p0 rfl rfl <| rY rfl rfl rfl <| bndE h fun v5 e2 h => r_callp rfl (base_Key_c e2) (CoL.refl _) rfl <| rY rfl rfl rfl <| ARun.qv (q_not rfl) rfl <| rE rfl rfl rfl <| rM rfl rfl <| ARun.guard rfl rfl rfl (fun hc => ?_) (fun hc => ?_)
      · refine have h := iteFb hc h; rF rfl rfl rfl <| rY rfl rfl rfl <| rL rfl rfl .p0 rfl rfl <| rY rfl rfl rfl <| ARun.qv (q_sne rfl rfl) rfl <| rY rfl rfl rfl <| rM rfl rfl <| ARun.guard_dt rfl rfl rfl (fun hc => ?_) (fun hc => ?_)
        · exact have h := iteT hc h; rF rfl rfl rfl <| rY rfl rfl rfl <| rL rfl rfl .p0 rfl rfl <| rY rfl rfl rfl <| bndE h fun v6 e3 h => r_callp rfl (base_Key_c e3) (CoL.refl _) rfl <| rY rfl rfl rfl <| ARun.qv (q_not rfl) rfl <| rY rfl rfl rfl <| rT rfl rfl rfl <| rE rfl rfl rfl <| rA rfl rfl <| rN <| ATodo.stop <| ImpX.lq [1, 0] ⟨!v6, h, rfl⟩ rfl rfl
        · exact have h := iteF hc h; rG rfl rfl rfl rfl <| rG rfl rfl rfl rfl <| rG rfl rfl rfl rfl <| rY rfl rfl rfl <| rE rfl rfl rfl <| rE rfl rfl rfl <| rA rfl rfl <| rN <| ATodo.stop <| ImpX.lq [1, 0] ⟨false, h, rfl⟩ rfl rfl
      · exact have h := iteT hc h; rG rfl rfl rfl rfl <| rG rfl rfl rfl rfl <| rG rfl rfl rfl rfl <| ARun.guard_und rfl rfl rfl <| ARun.guard_und rfl rfl rfl <| ARun.guard_und rfl rfl rfl <| ARun.guard_und rfl rfl rfl <| rG rfl rfl rfl rfl <| rT rfl rfl rfl <| rA rfl rfl <| rN <| ATodo.stop <| ImpX.lq [1, 0] ⟨true, h, rfl⟩ rfl rfl
    · exact have h := iteT hc h; rG rfl rfl rfl rfl <| rG rfl rfl rfl rfl <| rG rfl rfl rfl rfl <| rT rfl rfl rfl <| rM rfl rfl <| rG rfl rfl rfl rfl <| rG rfl rfl rfl rfl <| rG rfl rfl rfl rfl <| rG rfl rfl rfl rfl <| ARun.guard_und rfl rfl rfl <| ARun.guard_und rfl rfl rfl <| ARun.guard_und rfl rfl rfl <| ARun.guard_und rfl rfl rfl <| rG rfl rfl rfl rfl <| rT rfl rfl rfl <| rA rfl rfl <| rN <| ATodo.stop <| ImpX.lq [1, 0] ⟨true, h, rfl⟩ rfl rfl
  · rintro σ' ⟨c3, h, rfl⟩
    unfold item_Fault_j1 at h
    refine ATodo.cond rfl (fun hc => ?_) (fun hc => ?_)
    · refine have h := iteT hc h; tSR <| rA rfl rfl <| rN <| ATodo.ret <| ?_
      obtain rfl := Option.some.inj h
      exact ImpX.here ⟨_, .cons (.tmp _ _ rfl) .nil, rfl⟩
    · refine have h := iteFb hc h; tSR <| rF rfl rfl rfl <| ARun.qv (n_load_ptr_part rfl rfl .p1 rfl rfl) rfl <| r_callp rfl (base_Version_c rfl) (CoL.refl _) rfl <| ARun.qv (q_not rfl) rfl <| rA rfl rfl <| rN <| ATodo.cond rfl (fun hc => ?_) (fun hc => ?_)
      · refine have h := iteT hc h; tSR <| rA rfl rfl <| rN <| ATodo.ret <| ?_
        obtain rfl := Option.some.inj h
        exact ImpX.here ⟨_, .cons (.tmp _ _ rfl) .nil, rfl⟩
      · refine have h := iteFb hc h; tSR <| rF rfl rfl rfl <| rL rfl rfl .p1 rfl rfl <| ARun.qv (t_len rfl) rfl <| ARun.qv (q_gtr rfl rfl) rfl <| rA rfl rfl <| rN <| ATodo.cond_d rfl (fun hc => ?_) (fun hc => ?_)
        · refine have h := iteT hc h; tSR <| rA rfl rfl <| rN <| ATodo.ret <| ?_
          obtain rfl := Option.some.inj h
          exact ImpX.here ⟨_, .cons (.tmp _ _ rfl) .nil, rfl⟩
        · refine have h := iteF hc h; tK <| ATodo.blk <| tS <| tSR <| rF rfl rfl rfl <| rL rfl rfl .p1 rfl rfl <| ARun.qv (t_len rfl) rfl <| rM rfl rfl <| rN <| ATodo.block <| ATodo.loopI (fun x : Int => item_Fault_b1 p0x0 x) (fun x σ' => σ' = ⟨120, [(1, .ptr b1 0), (3, .ptr b2 0), (43, .list 2 (p0x0.Device.Tags.map Pair.av)), (44, I (p0x0.Device.Tags.length : Int)), (45, I x)], [(b1, .cells [.str p0x0.Device.Key, .str p0x0.Device.Model, .str p0x0.Device.Tenant, I p0x0.Device.Firmware.Major, I p0x0.Device.Firmware.Minor, I p0x0.Device.Firmware.Patch, .list 2 (p0x0.Device.Tags.map Pair.av), .list 5 (p0x0.Props.map PropS.av)]), (b2, .cells [.str p0x0.Device.Key, .str p0x0.Device.Model, .str p0x0.Device.Tenant, I p0x0.Device.Firmware.Major, I p0x0.Device.Firmware.Minor, I p0x0.Device.Firmware.Patch, .list 2 (p0x0.Device.Tags.map Pair.av)])]⟩) h ?_ ?_
          · exact ImpX.lq [0, 0] rfl rfl rfl
          · intro n8 z1 σ' J1 hmk h hJ1 hA1
            obtain rfl := hmk
            replace h : item_Fault_b1 p0x0 n8 = some z1 := h
            unfold item_Fault_b1 at h
            refine tSR <| ARun.qv (q_lss rfl rfl) rfl <| rN <| tS <| ATodo.cond_d rfl (fun hc => ?_) (fun hc => ?_)
            · refine have h := iteT hc h; tK <| tS <| ATodo.block <| tSR <| rM rfl rfl <| bndE h fun v9 e4 h => ARun.qv (t_index rfl rfl rfl e4 rfl rfl) rfl <| ARun.qv (q_load_rptr_agg rfl rfl rfl) rfl <| n_alloc rfl rfl rfl rfl fun b10 => rA rfl rfl <| n_store_ptr rfl rfl rfl rfl .p0 rfl rfl <| rN <| ATodo.block <| tSR <| rF rfl rfl rfl <| rL rfl rfl .p0 rfl rfl <| bndE h fun v11 e5 h => r_callp rfl (base_Key_c e5) (CoL.refl _) rfl <| ARun.qv (q_not rfl) rfl <| rA rfl rfl <| rN <| ATodo.cond rfl (fun hc => ?_) (fun hc => ?_)
              · refine have h := iteT hc h; tSR <| rA rfl rfl <| rN <| ATodo.ret <| have h := outL h hA1; ?_
                obtain rfl := Option.some.inj h
                exact ImpX.here ⟨_, .cons (.tmp _ _ rfl) .nil, rfl⟩
              · refine have h := iteFb hc h; tS <| ATodo.cut (fun σ' => ∃ (c12 : Bool), item_Fault_j2 n8 v9 c12 = some z1 ∧ σ' = ⟨120, [(1, .ptr b1 0), (3, .ptr b2 0), (5, .ptr b10 0), (43, .list 2 (p0x0.Device.Tags.map Pair.av)), (44, I (p0x0.Device.Tags.length : Int)), (45, I n8), (55, .bool c12)], [(b1, .cells [.str p0x0.Device.Key, .str p0x0.Device.Model, .str p0x0.Device.Tenant, I p0x0.Device.Firmware.Major, I p0x0.Device.Firmware.Minor, I p0x0.Device.Firmware.Patch, .list 2 (p0x0.Device.Tags.map Pair.av), .list 5 (p0x0.Props.map PropS.av)]), (b2, .cells [.str p0x0.Device.Key, .str p0x0.Device.Model, .str p0x0.Device.Tenant, I p0x0.Device.Firmware.Major, I p0x0.Device.Firmware.Minor, I p0x0.Device.Firmware.Patch, .list 2 (p0x0.Device.Tags.map Pair.av)]), (b10, .cells [.str v9.Name, .str v9.Value])]⟩) ?_ ?_
                · refine ATodo.regionM (id := 13) (A := [0, 1, 3, 7, 15, 7, 39, 7, 135, 487, 999, 2023, 4095, 8191, 16383]) 15 mixed rfl (by kernel_rfl) (by kernel_rfl) <| AM.qv (q_move rfl) rfl <| AM.qv (q_gtr rfl rfl) rfl <| AM.qv (q_move rfl) rfl <| AM.guard_dt rfl rfl rfl (fun hc => ?_) (fun hc => ?_)
                  · exact have h := iteT hc h; AM.qv (n_field_ptr rfl rfl) rfl <| AM.guard_yes rfl rfl rfl <| AM.qv (q_load_ptr rfl rfl .p0 rfl) rfl <| AM.guard_yes rfl rfl rfl <| AM.qv (n_field_ptr rfl rfl) rfl <| AM.guard_yes rfl rfl rfl <| AM.qv (q_load_ptr rfl rfl .p2 rfl) rfl <| AM.guard_yes rfl rfl rfl <| AM.qv (q_move rfl) rfl <| AM.guard_yes rfl rfl rfl <| AM.qv (q_subw rfl rfl) rfl <| AM.guard_yes rfl rfl rfl <| bndE h fun v13 e6 h => AM.qv (t_index rfl rfl rfl e6 rfl rfl) rfl <| AM.guard_yes rfl rfl rfl <| AM.qv (n_field_rptr rfl rfl) rfl <| AM.guard_yes rfl rfl rfl <| AM.qv (q_load_rptr rfl rfl rfl) rfl <| AM.guard_yes rfl rfl rfl <| AM.qv (t_sleq rfl rfl) rfl <| AM.qv (q_pick_t rfl rfl) rfl <| AM.qv (q_assign rfl) rfl <| AM.nil <| rN <| ATodo.stop <| ImpX.lq [1, 1, 0] ⟨Op.bytesLess v9.Name v13.Name || v9.Name == v13.Name, h, rfl⟩ rfl rfl
                  · exact have h := iteF hc h; AM.guard_no rfl rfl rfl rfl <| AM.guard_no rfl rfl rfl rfl <| AM.guard_no rfl rfl rfl rfl <| AM.guard_no rfl rfl rfl rfl <| AM.guard_no rfl rfl rfl rfl <| AM.guard_no rfl rfl rfl rfl <| AM.guard_no rfl rfl rfl rfl <| AM.guard_no rfl rfl rfl rfl <| AM.guard_no rfl rfl rfl rfl <| AM.qv (q_pick_f rfl rfl) rfl <| AM.qv (q_assign rfl) rfl <| AM.nil <| rN <| ATodo.stop <| ImpX.lq [1, 1, 0] ⟨false, h, rfl⟩ rfl rfl
                · rintro σ' ⟨c12, h, rfl⟩
                  unfold item_Fault_j2 at h
                  refine ATodo.cond rfl (fun hc => ?_) (fun hc => ?_)
                  · refine have h := iteT hc h; tSR <| rA rfl rfl <| rN <| ATodo.ret <| have h := outL h hA1; ?_
                    obtain rfl := Option.some.inj h
                    exact ImpX.here ⟨_, .cons (.tmp _ _ rfl) .nil, rfl⟩
                  · refine have h := iteFb hc h; tSR <| rF rfl rfl rfl <| rL rfl rfl .p2 rfl rfl <| bndE h fun v14 e7 h => r_callp rfl (item_TagValue_c e7) (CoL.refl _) rfl <| ARun.qv (q_not rfl) rfl <| rA rfl rfl <| rN <| ATodo.cond rfl (fun hc => ?_) (fun hc => ?_)
                    · refine have h := iteT hc h; tSR <| rA rfl rfl <| rN <| ATodo.ret <| have h := outL h hA1; ?_
                      obtain rfl := Option.some.inj h
                      exact ImpX.here ⟨_, .cons (.tmp _ _ rfl) .nil, rfl⟩
                    · refine have h := iteFb hc h; tK <| ATodo.blk <| ATodo.blk <| tR <| ARun.qv (q_addw rfl rfl) rfl <| rM rfl rfl <| rN <| ATodo.stop <| ?_
                      obtain rfl := Option.some.inj h
                      exact hJ1 _ _ rfl <| ImpX.lq [0, 0] rfl rfl rfl
            · refine have h := iteF hc h; ATodo.exit rfl <| have h := outL h hA1; ?_
              unfold item_Fault_k5 at h
              refine tS <| tSR <| rF rfl rfl rfl <| rL rfl rfl .p0 rfl rfl <| ARun.qv (t_len rfl) rfl <| ARun.qv (q_gtr rfl rfl) rfl <| rN <| ATodo.cond_d rfl (fun hc => ?_) (fun hc => ?_)
              · refine have h := iteT hc h; tSR <| rA rfl rfl <| rN <| ATodo.ret <| ?_
                obtain rfl := Option.some.inj h
                exact ImpX.here ⟨_, .cons (.tmp _ _ rfl) .nil, rfl⟩
              · refine have h := iteF hc h; tK <| tS <| tSR <| rF rfl rfl rfl <| rL rfl rfl .p0 rfl rfl <| ARun.qv (t_len rfl) rfl <| rM rfl rfl <| rN <| ATodo.block <| ATodo.loopI (fun x : Int => item_Fault_b2 p0x0 x) (fun x σ' => σ' = ⟨120, [(1, .ptr b1 0), (81, .list 5 (p0x0.Props.map PropS.av)), (82, I (p0x0.Props.length : Int)), (83, I x)], [(b1, .cells [.str p0x0.Device.Key, .str p0x0.Device.Model, .str p0x0.Device.Tenant, I p0x0.Device.Firmware.Major, I p0x0.Device.Firmware.Minor, I p0x0.Device.Firmware.Patch, .list 2 (p0x0.Device.Tags.map Pair.av), .list 5 (p0x0.Props.map PropS.av)])]⟩) h ?_ ?_
                · exact ImpX.lq [0] rfl rfl rfl
                · intro n16 z2 σ' J2 hmk h hJ2 hA2
                  obtain rfl := hmk
                  replace h : item_Fault_b2 p0x0 n16 = some z2 := h
                  unfold item_Fault_b2 at h
                  refine tSR <| ARun.qv (q_lss rfl rfl) rfl <| rN <| tS <| ATodo.cond_d rfl (fun hc => ?_) (fun hc => ?_)
                  · refine have h := iteT hc h; tK <| tS <| ATodo.block <| tSR <| rM rfl rfl <| bndE h fun v17 e8 h => ARun.qv (t_index rfl rfl rfl e8 rfl rfl) rfl <| ARun.qv (q_load_rptr_agg rfl rfl rfl) rfl <| n_alloc rfl rfl rfl rfl fun b18 => rA rfl rfl <| n_store_ptr rfl rfl rfl rfl .p0 rfl rfl <| rN <| ATodo.block <| tSR <| rF rfl rfl rfl <| rL rfl rfl .p0 rfl rfl <| bndE h fun v19 e9 h => r_callp rfl (item_Property_c e9) (CoL.refl _) rfl <| ARun.qv (q_not rfl) rfl <| rA rfl rfl <| rN <| ATodo.cond rfl (fun hc => ?_) (fun hc => ?_)
                    · refine have h := iteT hc h; tSR <| rA rfl rfl <| rN <| ATodo.ret <| have h := outL h hA2; ?_
                      obtain rfl := Option.some.inj h
                      exact ImpX.here ⟨_, .cons (.tmp _ _ rfl) .nil, rfl⟩
                    · refine have h := iteFb hc h; tS <| ATodo.cut (fun σ' => ∃ (c20 : Bool), item_Fault_j3 n16 v17 c20 = some z2 ∧ σ' = ⟨120, [(1, .ptr b1 0), (7, .ptr b18 0), (81, .list 5 (p0x0.Props.map PropS.av)), (82, I (p0x0.Props.length : Int)), (83, I n16), (93, .bool c20)], [(b1, .cells [.str p0x0.Device.Key, .str p0x0.Device.Model, .str p0x0.Device.Tenant, I p0x0.Device.Firmware.Major, I p0x0.Device.Firmware.Minor, I p0x0.Device.Firmware.Patch, .list 2 (p0x0.Device.Tags.map Pair.av), .list 5 (p0x0.Props.map PropS.av)]), (b18, .cells [.str v17.Name, I v17.Value.Kind, .bool v17.Value.Flag, I v17.Value.Number, .str v17.Value.Words])]⟩) ?_ ?_
                      · refine ATodo.regionM (id := 25) (A := [0, 1, 3, 7, 15, 7, 39, 7, 135, 487, 999, 2023, 4095, 8191, 16383]) 15 mixed rfl (by kernel_rfl) (by kernel_rfl) <| AM.qv (q_move rfl) rfl <| AM.qv (q_gtr rfl rfl) rfl <| AM.qv (q_move rfl) rfl <| AM.guard_dt rfl rfl rfl (fun hc => ?_) (fun hc => ?_)
                        · exact have h := iteT hc h; AM.qv (n_field_ptr rfl rfl) rfl <| AM.guard_yes rfl rfl rfl <| AM.qv (q_load_ptr rfl rfl .p0 rfl) rfl <| AM.guard_yes rfl rfl rfl <| AM.qv (n_field_ptr rfl rfl) rfl <| AM.guard_yes rfl rfl rfl <| AM.qv (q_load_ptr rfl rfl .p1 rfl) rfl <| AM.guard_yes rfl rfl rfl <| AM.qv (q_move rfl) rfl <| AM.guard_yes rfl rfl rfl <| AM.qv (q_subw rfl rfl) rfl <| AM.guard_yes rfl rfl rfl <| bndE h fun v21 e10 h => AM.qv (t_index rfl rfl rfl e10 rfl rfl) rfl <| AM.guard_yes rfl rfl rfl <| AM.qv (n_field_rptr rfl rfl) rfl <| AM.guard_yes rfl rfl rfl <| AM.qv (q_load_rptr rfl rfl rfl) rfl <| AM.guard_yes rfl rfl rfl <| AM.qv (t_sleq rfl rfl) rfl <| AM.qv (q_pick_t rfl rfl) rfl <| AM.qv (q_assign rfl) rfl <| AM.nil <| rN <| ATodo.stop <| ImpX.lq [1, 0] ⟨Op.bytesLess v17.Name v21.Name || v17.Name == v21.Name, h, rfl⟩ rfl rfl
                        · exact have h := iteF hc h; AM.guard_no rfl rfl rfl rfl <| AM.guard_no rfl rfl rfl rfl <| AM.guard_no rfl rfl rfl rfl <| AM.guard_no rfl rfl rfl rfl <| AM.guard_no rfl rfl rfl rfl <| AM.guard_no rfl rfl rfl rfl <| AM.guard_no rfl rfl rfl rfl <| AM.guard_no rfl rfl rfl rfl <| AM.guard_no rfl rfl rfl rfl <| AM.qv (q_pick_f rfl rfl) rfl <| AM.qv (q_assign rfl) rfl <| AM.nil <| rN <| ATodo.stop <| ImpX.lq [1, 0] ⟨false, h, rfl⟩ rfl rfl
                      · rintro σ' ⟨c20, h, rfl⟩
                        unfold item_Fault_j3 at h
                        refine ATodo.cond rfl (fun hc => ?_) (fun hc => ?_)
                        · refine have h := iteT hc h; tSR <| rA rfl rfl <| rN <| ATodo.ret <| have h := outL h hA2; ?_
                          obtain rfl := Option.some.inj h
                          exact ImpX.here ⟨_, .cons (.tmp _ _ rfl) .nil, rfl⟩
                        · refine have h := iteFb hc h; tS <| ATodo.cut (fun σ' => ∃ (c22 : Bool), item_Fault_j4 n16 c22 = some z2 ∧ σ' = ⟨120, [(1, .ptr b1 0), (81, .list 5 (p0x0.Props.map PropS.av)), (82, I (p0x0.Props.length : Int)), (83, I n16), (108, .bool c22)], [(b1, .cells [.str p0x0.Device.Key, .str p0x0.Device.Model, .str p0x0.Device.Tenant, I p0x0.Device.Firmware.Major, I p0x0.Device.Firmware.Minor, I p0x0.Device.Firmware.Patch, .list 2 (p0x0.Device.Tags.map Pair.av), .list 5 (p0x0.Props.map PropS.av)])]⟩) ?_ ?_
                          · refine tR <| rF rfl rfl rfl <| ARun.qv (n_load_ptr_part rfl rfl .p1 rfl rfl) rfl <| bndE h fun v23 e11 h => r_callp rfl (item_Right_c e11) (CoL.refl _) rfl <| ARun.qv (q_not rfl) rfl <| rM rfl rfl <| ARun.guard rfl rfl rfl (fun hc => ?_) (fun hc => ?_)
                            · rw [orFb hc] at h
                              exact rF rfl rfl rfl <| rY rfl rfl rfl <| rF rfl rfl rfl <| rY rfl rfl rfl <| rL rfl rfl .p1 rfl rfl <| rY rfl rfl rfl <| ARun.qv (q_eql rfl rfl) rfl <| rE rfl rfl rfl <| rA rfl rfl <| rN <| ATodo.stop <| ImpX.lq [0] ⟨decide (v17.Value.Kind = (0 : Int)), h, rfl⟩ rfl rfl
                            · rw [orTb hc] at h
                              exact rG rfl rfl rfl rfl <| rG rfl rfl rfl rfl <| rG rfl rfl rfl rfl <| rT rfl rfl rfl <| rA rfl rfl <| rN <| ATodo.stop <| ImpX.lq [0] ⟨true, h, rfl⟩ rfl rfl
                          · rintro σ' ⟨c22, h, rfl⟩
                            unfold item_Fault_j4 at h
                            refine ATodo.cond rfl (fun hc => ?_) (fun hc => ?_)
                            · refine have h := iteT hc h; tSR <| rA rfl rfl <| rN <| ATodo.ret <| have h := outL h hA2; ?_
                              obtain rfl := Option.some.inj h
                              exact ImpX.here ⟨_, .cons (.tmp _ _ rfl) .nil, rfl⟩
                            · refine have h := iteFb hc h; tK <| ATodo.blk <| ATodo.blk <| tR <| ARun.qv (q_addw rfl rfl) rfl <| rM rfl rfl <| rN <| ATodo.stop <| ?_
                              obtain rfl := Option.some.inj h
                              exact hJ2 _ _ rfl <| ImpX.lq [0] rfl rfl rfl
                  · refine have h := iteF hc h; ATodo.exit rfl <| have h := outL h hA2; tSR <| rA rfl rfl <| rN <| ATodo.ret <| ?_
                    obtain rfl := Option.some.inj h
                    exact ImpX.here ⟨_, .cons (.tmp _ _ rfl) .nil, rfl⟩

set_option maxHeartbeats 4000000 in
theorem base_First_c [GI : GTab] {p0x0 : List Int} {r : Int} (h : base_First p0x0 = some r) : Pu Tryz.prog 115 [.list 1 (p0x0.map I)] (I r) := by
  unfold base_First at h
  refine ACall.bodyN Tryz.func115 rfl Tryz.ntmps115 Tryz.results115 rfl rfl ?_
  refine tSR <| rA rfl rfl <| rN <| tS <| tSR <| rM rfl rfl <| ARun.qv (t_len rfl) rfl <| rM rfl rfl <| rN <| ATodo.block <| ATodo.loopI (fun x : Int => base_First_b1 p0x0 x) (fun x σ' => σ' = ⟨15, [(5, .list 1 (p0x0.map I)), (6, I (p0x0.length : Int)), (7, I x)], []⟩) h ?_ ?_
  · exact ImpX.lq [] rfl rfl rfl
  · intro n2 z1 σ' J1 hmk h hJ1 hA1
    obtain rfl := hmk
    replace h : base_First_b1 p0x0 n2 = some z1 := h
    unfold base_First_b1 at h
    refine tSR <| ARun.qv (q_lss rfl rfl) rfl <| rN <| tS <| ATodo.cond_d rfl (fun hc => ?_) (fun hc => ?_)
    · refine have h := iteT hc h; tK <| tS <| ATodo.block <| tSR <| bndE h fun v3 e1 h => ARun.qv (t_index rfl rfl rfl e1 rfl rfl) rfl <| ARun.qv (q_load_rptr rfl rfl rfl) rfl <| rA rfl rfl <| rN <| tSR <| rM rfl rfl <| ARun.qv (q_neq rfl rfl) rfl <| rN <| ATodo.cond_d rfl (fun hc => ?_) (fun hc => ?_)
      · refine have h := iteT hc h; tSR <| rM rfl rfl <| rA rfl rfl <| rN <| ATodo.ret <| have h := outL h hA1; ?_
        obtain rfl := Option.some.inj h
        exact ImpX.here ⟨_, .cons (.tmp _ _ rfl) .nil, rfl⟩
      · refine have h := iteF hc h; tK <| ATodo.blk <| tR <| ARun.qv (q_addw rfl rfl) rfl <| rM rfl rfl <| rN <| ATodo.stop <| ?_
        obtain rfl := Option.some.inj h
        exact hJ1 _ _ rfl <| ImpX.lq [] rfl rfl rfl
    · refine have h := iteF hc h; ATodo.exit rfl <| have h := outL h hA1; tSR <| rA rfl rfl <| rN <| ATodo.ret <| ?_
      obtain rfl := Option.some.inj h
      exact ImpX.here ⟨_, .cons (.tmp _ _ rfl) .nil, rfl⟩

set_option maxHeartbeats 4000000 in
theorem item_Words_c [GI : GTab] {p0x0 : Str} {r : Item_Held} (h : item_Words p0x0 = r) : Pu Tryz.prog 215 [.str p0x0] (.agg [.bool r.Is, I r.Value.Kind, .bool r.Value.Flag, I r.Value.Number, .str r.Value.Words, I r.Version.Major, I r.Version.Minor, I r.Version.Patch]) := by
  unfold item_Words at h
  refine ACall.bodyN Tryz.func215 rfl Tryz.ntmps215 Tryz.results215 rfl rfl ?_
  refine tSR <| n_alloc rfl rfl rfl rfl fun b1 => rN <| tSR <| rM rfl rfl <| ARun.qv (n_build rfl rfl rfl rfl rfl) rfl <| ARun.qv (n_build rfl rfl rfl rfl rfl) rfl <| n_store_ptr rfl rfl rfl rfl .p0 rfl rfl <| rN <| ATodo.ret <| ?_
  obtain rfl := h
  exact ImpX.here ⟨_, .cons (.all _ _ _ _ _ _ rfl .p0 TUnder.h TInfo.h rfl rfl) .nil, rfl⟩

set_option maxHeartbeats 4000000 in
theorem item_look_c [GI : GTab] {p0x0 : ItemS} {p1x0 : Str} {r : Item_Held} (h : item_look p0x0 p1x0 = some r) : Pu Tryz.prog 178 [.agg [.str p0x0.Device.Key, .str p0x0.Device.Model, .str p0x0.Device.Tenant, I p0x0.Device.Firmware.Major, I p0x0.Device.Firmware.Minor, I p0x0.Device.Firmware.Patch, .list 2 (p0x0.Device.Tags.map Pair.av), .list 5 (p0x0.Props.map PropS.av)], .str p1x0] (.agg [.bool r.Is, I r.Value.Kind, .bool r.Value.Flag, I r.Value.Number, .str r.Value.Words, I r.Version.Major, I r.Version.Minor, I r.Version.Patch]) := by
  unfold item_look at h
  refine ACall.bodyN Tryz.func178 rfl Tryz.ntmps178 Tryz.results178 rfl rfl ?_
  refine tSR <| n_box rfl rfl rfl rfl fun b1 => n_alloc rfl rfl rfl rfl fun b2 => rN <| tS <| tSR <| rM rfl rfl <| rN <| ATodo.block <| tSR <| ARun.qv (q_seq rfl rfl) rfl <| rA rfl rfl <| rN <| ATodo.cond_d rfl (fun hc => ?_) (fun hc => ?_)
  · refine have h := iteT hc h; tSR <| rF rfl rfl rfl <| rF rfl rfl rfl <| rL rfl rfl .p1 rfl rfl <| r_callp rfl (item_Words_c rfl) (CoL.refl _) rfl <| n_store_ptr rfl rfl rfl rfl .p0 rfl rfl <| rN <| ATodo.ret <| ?_
    obtain rfl := Option.some.inj h
    exact ImpX.here ⟨_, .cons (.all _ _ _ _ _ _ rfl .p0 TUnder.h TInfo.h rfl rfl) .nil, rfl⟩
  · refine have h := iteF hc h; tSR <| ARun.qv (q_seq rfl rfl) rfl <| rA rfl rfl <| rN <| ATodo.cond_d rfl (fun hc => ?_) (fun hc => ?_)
    · refine have h := iteT hc h; tSR <| rF rfl rfl rfl <| rF rfl rfl rfl <| rL rfl rfl .p1 rfl rfl <| r_callp rfl (item_Words_c rfl) (CoL.refl _) rfl <| n_store_ptr rfl rfl rfl rfl .p0 rfl rfl <| rN <| ATodo.ret <| ?_
      obtain rfl := Option.some.inj h
      exact ImpX.here ⟨_, .cons (.all _ _ _ _ _ _ rfl .p0 TUnder.h TInfo.h rfl rfl) .nil, rfl⟩
    · refine have h := iteF hc h; tSR <| ARun.qv (q_seq rfl rfl) rfl <| rA rfl rfl <| rN <| ATodo.cond_d rfl (fun hc => ?_) (fun hc => ?_)
      · refine have h := iteT hc h; tSR <| rF rfl rfl rfl <| rF rfl rfl rfl <| rL rfl rfl .p1 rfl rfl <| r_callp rfl (item_Words_c rfl) (CoL.refl _) rfl <| n_store_ptr rfl rfl rfl rfl .p0 rfl rfl <| rN <| ATodo.ret <| ?_
        obtain rfl := Option.some.inj h
        exact ImpX.here ⟨_, .cons (.all _ _ _ _ _ _ rfl .p0 TUnder.h TInfo.h rfl rfl) .nil, rfl⟩
      · refine have h := iteF hc h; tSR <| ARun.qv (q_seq rfl rfl) rfl <| rA rfl rfl <| rN <| ATodo.cond_d rfl (fun hc => ?_) (fun hc => ?_)
        · refine have h := iteT hc h; tSR <| rF rfl rfl rfl <| rF rfl rfl rfl <| ARun.qv (n_load_ptr_part rfl rfl .p1 rfl rfl) rfl <| ARun.qv (n_build rfl rfl rfl rfl rfl) rfl <| n_store_ptr rfl rfl rfl rfl .p0 rfl rfl <| rN <| ATodo.ret <| ?_
          obtain rfl := Option.some.inj h
          exact ImpX.here ⟨_, .cons (.all _ _ _ _ _ _ rfl .p0 TUnder.h TInfo.h rfl rfl) .nil, rfl⟩
        · refine have h := iteF hc h; tK <| ATodo.blk <| tS <| tSR <| rM rfl rfl <| bndE h fun v3 e1 h => r_callp rfl (strings_CutPrefix_c e1) (CoL.refl _) rfl <| rM rfl rfl <| rX rfl rfl rfl <| rX rfl rfl rfl <| rA rfl rfl <| rA rfl rfl <| rN <| tSR <| rM rfl rfl <| rN <| ATodo.cond rfl (fun hc => ?_) (fun hc => ?_)
          · refine have h := iteT hc h; tS <| tSR <| rF rfl rfl rfl <| rF rfl rfl rfl <| rL rfl rfl .p1 rfl rfl <| ARun.qv (t_len rfl) rfl <| rM rfl rfl <| rN <| ATodo.block <| ATodo.loopI (fun x : Int => item_look_b1 p0x0 v3 x) (fun x σ' => σ' = ⟨76, [(4, .ptr b2 0), (5, .str v3.1), (44, .list 2 (p0x0.Device.Tags.map Pair.av)), (45, I (p0x0.Device.Tags.length : Int)), (46, I x)], [(b2, .cells [.bool false, I (0 : Int), .bool false, I (0 : Int), .str [], I (0 : Int), I (0 : Int), I (0 : Int)])]⟩) h ?_ ?_
            · exact ImpX.lq [0] rfl rfl rfl
            · intro n5 z1 σ' J1 hmk h hJ1 hA1
              obtain rfl := hmk
              replace h : item_look_b1 p0x0 v3 n5 = some z1 := h
              unfold item_look_b1 at h
              refine tSR <| ARun.qv (q_lss rfl rfl) rfl <| rN <| tS <| ATodo.cond_d rfl (fun hc => ?_) (fun hc => ?_)
              · refine have h := iteT hc h; tK <| tS <| ATodo.block <| tSR <| bndE h fun v6 e2 h => ARun.qv (t_index rfl rfl rfl e2 rfl rfl) rfl <| ARun.qv (q_load_rptr_agg rfl rfl rfl) rfl <| n_alloc rfl rfl rfl rfl fun b7 => n_store_ptr rfl rfl rfl rfl .p0 rfl rfl <| rN <| tSR <| rF rfl rfl rfl <| rL rfl rfl .p0 rfl rfl <| rM rfl rfl <| ARun.qv (q_seq rfl rfl) rfl <| rN <| ATodo.cond_d rfl (fun hc => ?_) (fun hc => ?_)
                · refine have h := iteT hc h; tSR <| rF rfl rfl rfl <| rL rfl rfl .p0 rfl rfl <| r_callp rfl (item_Words_c rfl) (CoL.refl _) rfl <| n_store_ptr rfl rfl rfl rfl .p1 rfl rfl <| rN <| ATodo.ret <| have h := outL h hA1; ?_
                  obtain rfl := Option.some.inj h
                  exact ImpX.here ⟨_, .cons (.all _ _ _ _ _ _ rfl .p1 TUnder.h TInfo.h rfl rfl) .nil, rfl⟩
                · refine have h := iteF hc h; tK <| ATodo.blk <| tR <| ARun.qv (q_addw rfl rfl) rfl <| rM rfl rfl <| rN <| ATodo.stop <| ?_
                  obtain rfl := Option.some.inj h
                  exact hJ1 _ _ rfl <| ImpX.lq [1] rfl rfl rfl
              · refine have h := iteF hc h; ATodo.exit rfl <| have h := outL h hA1; tSR <| ARun.qv (n_build rfl rfl rfl rfl rfl) rfl <| n_store_ptr rfl rfl rfl rfl .p0 rfl rfl <| rN <| ATodo.ret <| ?_
                obtain rfl := Option.some.inj h
                exact ImpX.here ⟨_, .cons (.all _ _ _ _ _ _ rfl .p0 TUnder.h TInfo.h rfl rfl) .nil, rfl⟩
          · refine have h := iteFb hc h; tK <| tS <| tSR <| rF rfl rfl rfl <| rL rfl rfl .p1 rfl rfl <| ARun.qv (t_len rfl) rfl <| rM rfl rfl <| rN <| ATodo.block <| ATodo.loopI (fun x : Int => item_look_b2 p0x0 p1x0 x) (fun x σ' => σ' = ⟨76, [(1, .str p1x0), (4, .ptr b2 0), (60, .list 5 (p0x0.Props.map PropS.av)), (61, I (p0x0.Props.length : Int)), (62, I x)], [(b2, .cells [.bool false, I (0 : Int), .bool false, I (0 : Int), .str [], I (0 : Int), I (0 : Int), I (0 : Int)])]⟩) h ?_ ?_
            · exact ImpX.lq [0] rfl rfl rfl
            · intro n9 z2 σ' J2 hmk h hJ2 hA2
              obtain rfl := hmk
              replace h : item_look_b2 p0x0 p1x0 n9 = some z2 := h
              unfold item_look_b2 at h
              refine tSR <| ARun.qv (q_lss rfl rfl) rfl <| rN <| tS <| ATodo.cond_d rfl (fun hc => ?_) (fun hc => ?_)
              · refine have h := iteT hc h; tK <| tS <| ATodo.block <| tSR <| bndE h fun v10 e3 h => ARun.qv (t_index rfl rfl rfl e3 rfl rfl) rfl <| ARun.qv (q_load_rptr_agg rfl rfl rfl) rfl <| n_alloc rfl rfl rfl rfl fun b11 => n_store_ptr rfl rfl rfl rfl .p0 rfl rfl <| rN <| tSR <| rF rfl rfl rfl <| rL rfl rfl .p0 rfl rfl <| bndE h fun q12 e4 h => ARun.qv (q_sadd e4 rfl rfl) rfl <| rM rfl rfl <| ARun.qv (q_seq rfl rfl) rfl <| rN <| ATodo.cond_d rfl (fun hc => ?_) (fun hc => ?_)
                · refine have h := iteT hc h; tSR <| rF rfl rfl rfl <| ARun.qv (n_load_ptr_part rfl rfl .p0 rfl rfl) rfl <| ARun.qv (n_build rfl rfl rfl rfl rfl) rfl <| n_store_ptr rfl rfl rfl rfl .p1 rfl rfl <| rN <| ATodo.ret <| have h := outL h hA2; ?_
                  obtain rfl := Option.some.inj h
                  exact ImpX.here ⟨_, .cons (.all _ _ _ _ _ _ rfl .p1 TUnder.h TInfo.h rfl rfl) .nil, rfl⟩
                · refine have h := iteF hc h; tK <| ATodo.blk <| tR <| ARun.qv (q_addw rfl rfl) rfl <| rM rfl rfl <| rN <| ATodo.stop <| ?_
                  obtain rfl := Option.some.inj h
                  exact hJ2 _ _ rfl <| ImpX.lq [1] rfl rfl rfl
              · refine have h := iteF hc h; ATodo.exit rfl <| have h := outL h hA2; tSR <| ARun.qv (n_build rfl rfl rfl rfl rfl) rfl <| n_store_ptr rfl rfl rfl rfl .p0 rfl rfl <| rN <| ATodo.ret <| ?_
                obtain rfl := Option.some.inj h
                exact ImpX.here ⟨_, .cons (.all _ _ _ _ _ _ rfl .p0 TUnder.h TInfo.h rfl rfl) .nil, rfl⟩

end Go.Proofs.YtohnopfmfehhkaaGreatDoor

