/- The code computes the plain functions: proofs written by shal.py. -/
import Derived.Test.YtlhoigimdehaeaaGreatDoorNtxP
import Derived.Test.YtlhoigimdehaeaaGreatDoorLib
set_option maxRecDepth 100000
set_option linter.unusedVariables false
set_option linter.unusedSimpArgs false
namespace Go.Proofs.YtlhoigimdehaeaaGreatDoor
open Go Go.Eng Go.Proofs Go.Beacon
attribute [local irreducible] ARun ATodo AQ QV ACall ImpX AWp AM
instance eqg61 : EqGd Tryz.prog 61 := ⟨by kernel_rfl⟩
instance eqt61 : EqTy Tryz.prog 61 2 Letter.av := ⟨fun x y w S v u hv hu => by
  obtain ⟨vs, rfl, hl, ha⟩ := At.agg_inv hv
  obtain ⟨us, rfl, hl', ha'⟩ := At.agg_inv hu
  obtain ⟨v0, p0, q0⟩ := AtA.get hl ha (off := 0) rfl
  obtain ⟨u0, p0', q0'⟩ := AtA.get hl' ha' (off := 0) rfl
  obtain ⟨v1, p1, q1⟩ := AtA.get hl ha (off := 1) rfl
  obtain ⟨u1, p1', q1'⟩ := AtA.get hl' ha' (off := 1) rfl
  obtain ⟨v2, p2, q2⟩ := AtA.get hl ha (off := 2) rfl
  obtain ⟨u2, p2', q2'⟩ := AtA.get hl' ha' (off := 2) rfl
  obtain ⟨v3, p3, q3⟩ := AtA.get hl ha (off := 3) rfl
  obtain ⟨u3, p3', q3'⟩ := AtA.get hl' ha' (off := 3) rfl
  obtain ⟨v4, p4, q4⟩ := AtA.get hl ha (off := 4) rfl
  obtain ⟨u4, p4', q4'⟩ := AtA.get hl' ha' (off := 4) rfl
  obtain ⟨v5, p5, q5⟩ := AtA.get hl ha (off := 5) rfl
  obtain ⟨u5, p5', q5'⟩ := AtA.get hl' ha' (off := 5) rfl
  refine EqR.cast (EqR.struct Tryz.underlying61 (by kernel_rfl) (.cons (by decide) (part_one rfl p0) (part_one rfl p0') (EqR.up (EqTy.h (g := AV.str) x.Id y.Id w S _ _ q0 q0') 0)  (.cons (by decide) (part_one rfl p1) (part_one rfl p1') (EqR.up (EqTy.h (g := AV.str) x.Slot y.Slot w S _ _ q1 q1') 0)  (.cons (by decide) (part_one rfl p2) (part_one rfl p2') (EqR.up (EqTy.h (g := AV.str) x.Body y.Body w S _ _ q2 q2') 0)  (.cons (by decide) (part_one rfl p3) (part_one rfl p3') (EqR.up (EqTy.h (g := I) x.Prio y.Prio w S _ _ q3 q3') 0)  (.cons (by decide) (part_one rfl p4) (part_one rfl p4') (EqR.up (EqTy.h (g := I) x.At y.At w S _ _ q4 q4') 0)  (.cons (by decide) (part_one rfl p5) (part_one rfl p5') (EqR.up (EqTy.h (g := I) x.Until y.Until w S _ _ q5 q5') 0) .nil))))))) ?_
  obtain ⟨_, _, _, _, _, _⟩ := x
  obtain ⟨_, _, _, _, _, _⟩ := y
  rw [Bool.eq_iff_iff]; simp [and_assoc]⟩
instance eqg63 : EqGd Tryz.prog 63 := ⟨by kernel_rfl⟩
instance eqt63 : EqTy Tryz.prog 63 3 Note.av := ⟨fun x y w S v u hv hu => by
  obtain ⟨vs, rfl, hl, ha⟩ := At.agg_inv hv
  obtain ⟨us, rfl, hl', ha'⟩ := At.agg_inv hu
  obtain ⟨v1, p1, q1⟩ := AtA.get hl ha (off := 6) rfl
  obtain ⟨u1, p1', q1'⟩ := AtA.get hl' ha' (off := 6) rfl
  obtain ⟨v2, p2, q2⟩ := AtA.get hl ha (off := 7) rfl
  obtain ⟨u2, p2', q2'⟩ := AtA.get hl' ha' (off := 7) rfl
  obtain ⟨v3, p3, q3⟩ := AtA.get hl ha (off := 8) rfl
  obtain ⟨u3, p3', q3'⟩ := AtA.get hl' ha' (off := 8) rfl
  refine EqR.cast (EqR.struct Tryz.underlying63 (by kernel_rfl) (.cons (by decide) (part_agg rfl rfl) (part_agg rfl rfl) (EqR.up (EqTy.h (g := Letter.av) x.Letter y.Letter w S _ _ (AtA.sub hl ha 0 6 (Nat.le_of_ble_eq_true rfl)) (AtA.sub hl' ha' 0 6 (Nat.le_of_ble_eq_true rfl))) 0)  (.cons (by decide) (part_one rfl p1) (part_one rfl p1') (EqR.up (EqTy.h (g := I) x.State y.State w S _ _ q1 q1') 1)  (.cons (by decide) (part_one rfl p2) (part_one rfl p2') (EqR.up (EqTy.h (g := I) x.Tries y.Tries w S _ _ q2 q2') 1)  (.cons (by decide) (part_one rfl p3) (part_one rfl p3') (EqR.up (EqTy.h (g := I) x.Since y.Since w S _ _ q3 q3') 1) .nil))))) ?_
  obtain ⟨_, _, _, _⟩ := x
  obtain ⟨_, _, _, _⟩ := y
  rw [Bool.eq_iff_iff]; simp [and_assoc]⟩
set_option maxHeartbeats 4000000 in
theorem Below_c [GI : GTab] {p0x0 : Int} {p1x0 : Int} {r : Int} (h : Below p0x0 p1x0 = some r) : Pu Tryz.prog 117 [I p0x0, I p1x0] (I r) := by
  unfold Below at h
  refine ACall.bodyN Tryz.func117 rfl Tryz.ntmps117 Tryz.results117 rfl rfl ?_
  refine tSR <| rA rfl rfl <| rN <| tS <| tSR <| rM rfl rfl <| ARun.qv (q_lss rfl rfl) rfl <| rN <| ATodo.cond_d rfl (fun hc => ?_) (fun hc => ?_)
  · refine have h := iteT hc h; tSR <| rA rfl rfl <| rN <| ATodo.ret <| ?_
    obtain rfl := Option.some.inj h
    exact ImpX.here ⟨_, .cons (.tmp _ _ rfl) .nil, rfl⟩
  · refine have h := iteF hc h; tK <| tSR <| rM rfl rfl <| rM rfl rfl <| bndE h fun n1 e1 h => ARun.qv (t_remS rfl rfl e1) rfl <| rA rfl rfl <| rN <| tS <| tSR <| rM rfl rfl <| ARun.qv (q_lss rfl rfl) rfl <| rN <| ATodo.cut (fun σ' => ∃ (n2 : Int), Below_j1 n2 = some r ∧ σ' = ⟨16, [(0, I n2)], []⟩) ?_ ?_
    · refine ATodo.cond_d rfl (fun hc => ?_) (fun hc => ?_)
      · exact have h := iteT hc h; tR <| rM rfl rfl <| rM rfl rfl <| ARun.qv (q_addw rfl rfl) rfl <| rA rfl rfl <| rN <| ATodo.stop <| ImpX.lq [] ⟨w64 (n1 + p1x0), h, rfl⟩ rfl rfl
      · exact have h := iteF hc h; tK <| ATodo.stop <| ImpX.lq [] ⟨n1, h, rfl⟩ rfl rfl
    · rintro σ' ⟨n2, h, rfl⟩
      unfold Below_j1 at h
      refine tSR <| rM rfl rfl <| rA rfl rfl <| rN <| ATodo.ret <| ?_
      obtain rfl := Option.some.inj h
      exact ImpX.here ⟨_, .cons (.tmp _ _ rfl) .nil, rfl⟩

set_option maxHeartbeats 4000000 in
theorem Stream_Next_c [GI : GTab] {b_0 : Bk} {p0x0 : Fleetmake_Stream} {p1x0 : Int} {r : Int × Fleetmake_Stream} (h : Stream_Next p0x0 p1x0 = some r) : ACall Tryz.prog 51 [.ptr b_0 0, I p1x0] [(b_0, .cells [.list 1 (p0x0.L.map I), I p0x0.at_])] (T0 ([(b_0, .cells [.list 1 (r.2.L.map I), I r.2.at_])]) (I r.1)) := by
  unfold Stream_Next at h
  refine ACall.lessH ?_
  refine ACall.bodyN Tryz.func51 rfl Tryz.ntmps51 Tryz.results51 rfl rfl ?_
  refine tSR <| rA rfl rfl <| rN <| tSR <| rM rfl rfl <| ARun.qv (q_nilCheck_ptr rfl) rfl <| rF rfl rfl rfl <| rL rfl rfl .p0 rfl rfl <| ARun.qv (q_addw rfl rfl) rfl <| ARun.qv (q_nilCheck_ptr rfl) rfl <| rF rfl rfl rfl <| n_store_ptr rfl rfl rfl rfl .p0 rfl rfl <| rN <| tS <| tSR <| rM rfl rfl <| ARun.qv (q_nilCheck_ptr rfl) rfl <| rF rfl rfl rfl <| rL rfl rfl .p0 rfl rfl <| ARun.qv (t_len rfl) rfl <| ARun.qv (q_eql rfl rfl) rfl <| rN <| ATodo.cond_d rfl (fun hc => ?_) (fun hc => ?_)
  · refine have h := iteT hc h; tSR <| rM rfl rfl <| ARun.qv (q_nilCheck_ptr rfl) rfl <| rF rfl rfl rfl <| rL rfl rfl .p0 rfl rfl <| ARun.qv (q_mulw rfl rfl) rfl <| rM rfl rfl <| bndE h fun v1 e1 h => r_callp rfl (Below_c e1) (CoL.refl _) rfl <| rA rfl rfl <| rN <| ATodo.ret <| ?_
    obtain rfl := Option.some.inj h
    exact ImpX.here ⟨_, .cons (.tmp _ _ rfl) .nil, _, .cons .p0 .nil, ⟨rfl, rfl⟩⟩
  · refine have h := iteF hc h; tK <| tS <| ATodo.regionM (id := 4) (A := [0, 1, 3, 7, 15, 0, 32, 96, 224, 480, 1023, 2047]) 12 mixed rfl (by kernel_rfl) (by kernel_rfl) <| AM.qv (q_move rfl) rfl <| AM.qv (q_nilCheck_ptr rfl) rfl <| AM.qv (n_field_ptr rfl rfl) rfl <| AM.qv (q_load_ptr rfl rfl .p0 rfl) rfl <| AM.qv (q_subw rfl rfl) rfl <| AM.qv (q_move rfl) rfl <| AM.qv (q_nilCheck_ptr rfl) rfl <| AM.qv (n_field_ptr rfl rfl) rfl <| AM.qv (q_load_ptr rfl rfl .p0 rfl) rfl <| AM.qv (t_len rfl) rfl <| bndE h fun n2 e2 h => AM.qv (t_remS rfl rfl e2) rfl <| AM.qv (q_assign rfl) rfl <| AM.nil <| rN <| tS <| ATodo.regionM (id := 5) (A := [0, 1, 3, 7, 15, 0, 32, 96, 224, 480, 1023, 2047]) 12 mixed rfl (by kernel_rfl) (by kernel_rfl) <| AM.qv (q_move rfl) rfl <| AM.qv (q_nilCheck_ptr rfl) rfl <| AM.qv (n_field_ptr rfl rfl) rfl <| AM.qv (q_load_ptr rfl rfl .p0 rfl) rfl <| AM.qv (q_subw rfl rfl) rfl <| AM.qv (q_move rfl) rfl <| AM.qv (q_nilCheck_ptr rfl) rfl <| AM.qv (n_field_ptr rfl rfl) rfl <| AM.qv (q_load_ptr rfl rfl .p0 rfl) rfl <| AM.qv (t_len rfl) rfl <| bndE h fun n3 e3 h => AM.qv (t_quoS rfl rfl e3) rfl <| AM.qv (q_assign rfl) rfl <| AM.nil <| rN <| tSR <| rM rfl rfl <| ARun.qv (q_nilCheck_ptr rfl) rfl <| rF rfl rfl rfl <| rL rfl rfl .p0 rfl rfl <| rM rfl rfl <| bndE h fun v4 e4 h => ARun.qv (t_index rfl rfl rfl e4 rfl rfl) rfl <| ARun.qv (q_load_rptr rfl rfl rfl) rfl <| bndE h fun v5 e5 h => r_callp rfl (Below_c e5) (CoL.refl _) rfl <| rM rfl rfl <| rM rfl rfl <| ARun.qv (q_addw rfl rfl) rfl <| ARun.qv (q_mulw rfl rfl) rfl <| ARun.qv (q_addw rfl rfl) rfl <| rM rfl rfl <| bndE h fun v6 e6 h => r_callp rfl (Below_c e6) (CoL.refl _) rfl <| rA rfl rfl <| rN <| ATodo.ret <| ?_
    obtain rfl := Option.some.inj h
    exact ImpX.here ⟨_, .cons (.tmp _ _ rfl) .nil, _, .cons .p0 .nil, ⟨rfl, rfl⟩⟩

set_option maxHeartbeats 4000000 in
theorem Stream_Flip_c [GI : GTab] {b_0 : Bk} {p0x0 : Fleetmake_Stream} {p1x0 : Int} {r : Bool × Fleetmake_Stream} (h : Stream_Flip p0x0 p1x0 = some r) : ACall Tryz.prog 48 [.ptr b_0 0, I p1x0] [(b_0, .cells [.list 1 (p0x0.L.map I), I p0x0.at_])] (T0 ([(b_0, .cells [.list 1 (r.2.L.map I), I r.2.at_])]) (.bool r.1)) := by
  unfold Stream_Flip at h
  refine ACall.lessH ?_
  refine ACall.bodyN Tryz.func48 rfl Tryz.ntmps48 Tryz.results48 rfl rfl ?_
  refine tSR <| rA rfl rfl <| rN <| tSR <| rM rfl rfl <| rM rfl rfl <| bndE h fun v1 e1 h => t_call0 rfl (Stream_Next_c e1) (CoL.refl _) (.cons .p0 .nil) rfl rfl <| ARun.qv (q_eql rfl rfl) rfl <| rA rfl rfl <| rN <| ATodo.ret <| ?_
  obtain rfl := Option.some.inj h
  exact ImpX.here ⟨_, .cons (.tmp _ _ rfl) .nil, _, .cons .p0 .nil, ⟨rfl, rfl⟩⟩

set_option maxHeartbeats 4000000 in
theorem Stream_Some_c [GI : GTab] {b_0 : Bk} {p0x0 : Fleetmake_Stream} {p1x0 : List Str} {r : Str × Fleetmake_Stream} (h : Stream_Some p0x0 p1x0 = some r) : ACall Tryz.prog 44 [.ptr b_0 0, .list 1 (p1x0.map AV.str)] [(b_0, .cells [.list 1 (p0x0.L.map I), I p0x0.at_])] (T0 ([(b_0, .cells [.list 1 (r.2.L.map I), I r.2.at_])]) (.str r.1)) := by
  unfold Stream_Some at h
  refine ACall.lessH ?_
  refine ACall.bodyN Tryz.func44 rfl Tryz.ntmps44 Tryz.results44 rfl rfl ?_
  refine tSR <| rA rfl rfl <| rN <| tSR <| rM rfl rfl <| rM rfl rfl <| rM rfl rfl <| ARun.qv (t_len rfl) rfl <| bndE h fun v1 e1 h => t_call0 rfl (Stream_Next_c e1) (CoL.refl _) (.cons .p0 .nil) rfl rfl <| bndE h fun v2 e2 h => ARun.qv (t_index rfl rfl rfl e2 rfl rfl) rfl <| ARun.qv (q_load_rptr rfl rfl rfl) rfl <| rA rfl rfl <| rN <| ATodo.ret <| ?_
  obtain rfl := Option.some.inj h
  exact ImpX.here ⟨_, .cons (.tmp _ _ rfl) .nil, _, .cons .p0 .nil, ⟨rfl, rfl⟩⟩

set_option maxHeartbeats 4000000 in
theorem Stream_Pick_c [GI : GTab] {b_0 : Bk} {p0x0 : Fleetmake_Stream} {p1x0 : List Int} {r : Int × Fleetmake_Stream} (h : Stream_Pick p0x0 p1x0 = some r) : ACall Tryz.prog 45 [.ptr b_0 0, .list 1 (p1x0.map I)] [(b_0, .cells [.list 1 (p0x0.L.map I), I p0x0.at_])] (T0 ([(b_0, .cells [.list 1 (r.2.L.map I), I r.2.at_])]) (I r.1)) := by
  unfold Stream_Pick at h
  refine ACall.lessH ?_
  refine ACall.bodyN Tryz.func45 rfl Tryz.ntmps45 Tryz.results45 rfl rfl ?_
  refine tSR <| rA rfl rfl <| rN <| tSR <| rM rfl rfl <| rM rfl rfl <| rM rfl rfl <| ARun.qv (t_len rfl) rfl <| bndE h fun v1 e1 h => t_call0 rfl (Stream_Next_c e1) (CoL.refl _) (.cons .p0 .nil) rfl rfl <| bndE h fun v2 e2 h => ARun.qv (t_index rfl rfl rfl e2 rfl rfl) rfl <| ARun.qv (q_load_rptr rfl rfl rfl) rfl <| rA rfl rfl <| rN <| ATodo.ret <| ?_
  obtain rfl := Option.some.inj h
  exact ImpX.here ⟨_, .cons (.tmp _ _ rfl) .nil, _, .cons .p0 .nil, ⟨rfl, rfl⟩⟩

set_option maxHeartbeats 4000000 in
theorem Stream_Range_c [GI : GTab] {b_0 : Bk} {p0x0 : Fleetmake_Stream} {p1x0 : Int} {p2x0 : Int} {r : Int × Fleetmake_Stream} (h : Stream_Range p0x0 p1x0 p2x0 = some r) : ACall Tryz.prog 8 [.ptr b_0 0, I p1x0, I p2x0] [(b_0, .cells [.list 1 (p0x0.L.map I), I p0x0.at_])] (T0 ([(b_0, .cells [.list 1 (r.2.L.map I), I r.2.at_])]) (I r.1)) := by
  unfold Stream_Range at h
  refine ACall.lessH ?_
  refine ACall.bodyN Tryz.func8 rfl Tryz.ntmps8 Tryz.results8 rfl rfl ?_
  refine tSR <| rA rfl rfl <| rN <| tS <| tSR <| rM rfl rfl <| rM rfl rfl <| ARun.qv (q_lss rfl rfl) rfl <| rN <| ATodo.cond_d rfl (fun hc => ?_) (fun hc => ?_)
  · refine have h := iteT hc h; tSR <| rM rfl rfl <| rA rfl rfl <| rN <| ATodo.ret <| ?_
    obtain rfl := Option.some.inj h
    exact ImpX.here ⟨_, .cons (.tmp _ _ rfl) .nil, _, .cons .p0 .nil, ⟨rfl, rfl⟩⟩
  · refine have h := iteF hc h; tK <| tSR <| rM rfl rfl <| rM rfl rfl <| rM rfl rfl <| rM rfl rfl <| ARun.qv (q_subw rfl rfl) rfl <| ARun.qv (q_addw rfl rfl) rfl <| bndE h fun v1 e1 h => t_call0 rfl (Stream_Next_c e1) (CoL.refl _) (.cons .p0 .nil) rfl rfl <| ARun.qv (q_addw rfl rfl) rfl <| rA rfl rfl <| rN <| ATodo.ret <| ?_
    obtain rfl := Option.some.inj h
    exact ImpX.here ⟨_, .cons (.tmp _ _ rfl) .nil, _, .cons .p0 .nil, ⟨rfl, rfl⟩⟩

set_option maxHeartbeats 4000000 in
theorem Stream_Odd_c [GI : GTab] {b_0 : Bk} {p0x0 : Fleetmake_Stream} {p1x0 : Int} {p2x0 : Int} {r : Int × Fleetmake_Stream} (h : Stream_Odd p0x0 p1x0 p2x0 = some r) : ACall Tryz.prog 52 [.ptr b_0 0, I p1x0, I p2x0] [(b_0, .cells [.list 1 (p0x0.L.map I), I p0x0.at_])] (T0 ([(b_0, .cells [.list 1 (r.2.L.map I), I r.2.at_])]) (I r.1)) := by
  unfold Stream_Odd at h
  refine ACall.lessH ?_
  refine ACall.bodyN Tryz.func52 rfl Tryz.ntmps52 Tryz.results52 rfl rfl ?_
  refine tSR <| rA rfl rfl <| rN <| tS <| tSR <| rM rfl rfl <| bndE h fun v1 e1 h => t_call0 rfl (Stream_Flip_c e1) (CoL.refl _) (.cons .p0 .nil) rfl rfl <| rN <| ATodo.cond rfl (fun hc => ?_) (fun hc => ?_)
  · refine have h := iteT hc h; tSR <| rM rfl rfl <| rM rfl rfl <| ARun.qv (q_subw rfl rfl) rfl <| rM rfl rfl <| ARun.qv (q_addw rfl rfl) rfl <| rM rfl rfl <| rM rfl rfl <| n_buildSliceL (xs := ([w64 (p1x0 - (1 : Int)), w64 (p2x0 + (1 : Int)), p1x0, p2x0, (-1099511627776 : Int), (1099511627776 : Int)]).map I) rfl rfl rfl rfl rfl rfl <| bndE h fun v2 e2 h => t_call0 rfl (Stream_Pick_c e2) (CoL.refl _) (.cons .p0 .nil) rfl rfl <| rA rfl rfl <| rN <| ATodo.ret <| ?_
    obtain rfl := Option.some.inj h
    exact ImpX.here ⟨_, .cons (.tmp _ _ rfl) .nil, _, .cons .p0 .nil, ⟨rfl, rfl⟩⟩
  · refine have h := iteFb hc h; tK <| tSR <| rM rfl rfl <| rM rfl rfl <| rM rfl rfl <| bndE h fun v3 e3 h => t_call0 rfl (Stream_Range_c e3) (CoL.refl _) (.cons .p0 .nil) rfl rfl <| rA rfl rfl <| rN <| ATodo.ret <| ?_
    obtain rfl := Option.some.inj h
    exact ImpX.here ⟨_, .cons (.tmp _ _ rfl) .nil, _, .cons .p0 .nil, ⟨rfl, rfl⟩⟩

set_option maxHeartbeats 4000000 in
theorem Stream_Notes_c [GI : GTab] {b_0 : Bk} {p0x0 : Fleetmake_Stream} {r : (List Note) × Fleetmake_Stream} (h : Stream_Notes p0x0 = some r) : ACall Tryz.prog 26 [.ptr b_0 0] [(b_0, .cells [.list 1 (p0x0.L.map I), I p0x0.at_])] (T1 (fun d_0 => [(b_0, .cells [.list 1 (r.2.L.map I), I r.2.at_]), (d_0, .arr 9 (r.1.map Note.av))]) (fun d_0 => .sl 9 d_0 0 r.1.length)) := by
  unfold Stream_Notes at h
  refine ACall.lessH ?_
  refine ACall.bodyN Tryz.func26 rfl Tryz.ntmps26 Tryz.results26 rfl rfl ?_
  refine tSR <| rA rfl rfl <| rN <| tSR <| rA rfl rfl <| rN <| tS <| tSR <| n_buildSliceL (xs := ([([108, 97] : Str), ([108, 98] : Str), ([108, 99] : Str), ([108, 100] : Str)]).map AV.str) rfl rfl rfl rfl rfl rfl <| ARun.qv (t_len rfl) rfl <| rM rfl rfl <| rN <| ATodo.block <| ATodo.loopI (fun x : (List Int) × Int × (List Note) × Int => Stream_Notes_b1 x.1 x.2.1 x.2.2.1 x.2.2.2) (fun x σ' => ∃ (b8 : Bk), σ' = ⟨58, [(0, .ptr b_0 0), (3, .sl 9 b8 0 x.2.2.1.length), (7, .list 1 ([([108, 97] : Str), ([108, 98] : Str), ([108, 99] : Str), ([108, 100] : Str)].map AV.str)), (8, I ([([108, 97] : Str), ([108, 98] : Str), ([108, 99] : Str), ([108, 100] : Str)].length : Int)), (9, I x.2.2.2)], [(b_0, .cells [.list 1 (x.1.map I), I x.2.1]), (b8, .arr 9 (x.2.2.1.map Note.av))]⟩) h ?_ ?_
  · exact ImpX.arr (s := 3) 9 rfl fun b11 => ImpX.lq [1, 0] ⟨b11, rfl⟩ rfl rfl
  · intro x z1 σ' J1 hmk h hJ1 hA1
    obtain ⟨l6, n7, l9, n10⟩ := x
    obtain ⟨b8, rfl⟩ := hmk
    replace h : Stream_Notes_b1 l6 n7 l9 n10 = some z1 := h
    unfold Stream_Notes_b1 at h
    refine tSR <| ARun.qv (q_lss rfl rfl) rfl <| rN <| tS <| ATodo.cond_d rfl (fun hc => ?_) (fun hc => ?_)
    · refine have h := iteT hc h; tK <| tS <| ATodo.cut (fun σ' => ∃ (b14 : Bk) (l12 : List Int) (n13 : Int) (l15 : List Note), Stream_Notes_j1 n10 l12 n13 l15 = some z1 ∧ σ' = ⟨58, [(0, .ptr b_0 0), (3, .sl 9 b14 0 l15.length), (7, .list 1 ([([108, 97] : Str), ([108, 98] : Str), ([108, 99] : Str), ([108, 100] : Str)].map AV.str)), (8, I ([([108, 97] : Str), ([108, 98] : Str), ([108, 99] : Str), ([108, 100] : Str)].length : Int)), (9, I n10)], [(b_0, .cells [.list 1 (l12.map I), I n13]), (b14, .arr 9 (l15.map Note.av))]⟩) ?_ ?_
      · refine ATodo.block <| tSR <| bndE h fun v16 e1 h => ARun.qv (t_index rfl rfl rfl e1 rfl rfl) rfl <| ARun.qv (q_load_rptr rfl rfl rfl) rfl <| rA rfl rfl <| rN <| tS <| tSR <| rM rfl rfl <| bndE h fun v17 e2 h => t_call0 rfl (Stream_Flip_c e2) (CoL.refl _) (.cons .p0 .nil) rfl rfl <| rN <| ATodo.cond rfl (fun hc => ?_) (fun hc => ?_)
        · exact have h := iteT hc h; ATodo.exit rfl <| ATodo.stop <| ImpX.lq [0, 0] ⟨b8, v17.2.L, v17.2.at_, l9, h, rfl⟩ rfl rfl
        · refine have h := iteFb hc h; tK <| tSR <| rM rfl rfl <| rM rfl rfl <| n_buildSliceL (xs := ([([] : Str), ([115, 97] : Str)]).map AV.str) rfl rfl rfl rfl rfl rfl <| bndE h fun v18 e3 h => t_call0 rfl (Stream_Some_c e3) (CoL.refl _) (.cons .p0 .nil) rfl rfl <| rM rfl rfl <| n_buildSliceL (xs := ([([100, 111] : Str), ([100, 111] : Str), ([120, 32, 34, 121, 34] : Str)]).map AV.str) rfl rfl rfl rfl rfl rfl <| bndE h fun v19 e4 h => t_call0 rfl (Stream_Some_c e4) (CoL.refl _) (.cons .p0 .nil) rfl rfl <| rM rfl rfl <| n_buildSliceL (xs := ([(0 : Int), (0 : Int), (0 : Int), (5 : Int)]).map I) rfl rfl rfl rfl rfl rfl <| bndE h fun v20 e5 h => t_call0 rfl (Stream_Pick_c e5) (CoL.refl _) (.cons .p0 .nil) rfl rfl <| ARun.qv (n_build rfl rfl rfl rfl rfl) rfl <| rM rfl rfl <| bndE h fun v21 e6 h => t_call0 rfl (Stream_Range_c e6) (CoL.refl _) (.cons .p0 .nil) rfl rfl <| rM rfl rfl <| n_buildSliceL (xs := ([(0 : Int), (1 : Int), (1 : Int), (2 : Int)]).map I) rfl rfl rfl rfl rfl rfl <| bndE h fun v22 e7 h => t_call0 rfl (Stream_Pick_c e7) (CoL.refl _) (.cons .p0 .nil) rfl rfl <| rM rfl rfl <| n_buildSliceL (xs := ([(0 : Int), (5 : Int), (5 : Int), (9 : Int)]).map I) rfl rfl rfl rfl rfl rfl <| bndE h fun v23 e8 h => t_call0 rfl (Stream_Pick_c e8) (CoL.refl _) (.cons .p0 .nil) rfl rfl <| ARun.qv (n_build rfl rfl rfl rfl rfl) rfl <| n_alloc rfl rfl rfl rfl fun b24 => n_store_ptr rfl rfl rfl rfl .p0 rfl rfl <| rN <| tS <| tSR <| rM rfl rfl <| bndE h fun v25 e9 h => t_call0 rfl (Stream_Flip_c e9) (CoL.refl _) (.cons .p1 .nil) rfl rfl <| rN <| ATodo.cut (fun σ' => ∃ (l26 : List Int) (n27 : Int) (q28 : Str) (n29 : Int) (n30 : Int) (n31 : Int), Stream_Notes_j2 l9 n10 v18 v19 v20 l26 n27 q28 n29 n30 n31 = some z1 ∧ σ' = ⟨58, [(0, .ptr b_0 0), (3, .sl 9 b8 0 l9.length), (6, .ptr b24 0), (7, .list 1 ([([108, 97] : Str), ([108, 98] : Str), ([108, 99] : Str), ([108, 100] : Str)].map AV.str)), (8, I ([([108, 97] : Str), ([108, 98] : Str), ([108, 99] : Str), ([108, 100] : Str)].length : Int)), (9, I n10)], [(b_0, .cells [.list 1 (l26.map I), I n27]), (b8, .arr 9 (l9.map Note.av)), (b24, .cells [.str q28, .str v18.1, .str v19.1, I v20.1, I (0 : Int), I (100 : Int), I n29, I n30, I n31])]⟩) ?_ ?_
          · refine ATodo.cond rfl (fun hc => ?_) (fun hc => ?_)
            · exact have h := iteT hc h; tR <| rM rfl rfl <| rM rfl rfl <| n_buildSliceL (xs := ([v16, ([] : Str), ([108, 97] : Str)]).map AV.str) rfl rfl rfl rfl rfl rfl <| bndE h fun v32 e10 h => t_call0 rfl (Stream_Some_c e10) (CoL.refl _) (.cons .p0 .nil) rfl rfl <| rM rfl rfl <| bndE h fun v33 e11 h => t_call0 rfl (Stream_Odd_c e11) (CoL.refl _) (.cons .p0 .nil) rfl rfl <| rM rfl rfl <| bndE h fun v34 e12 h => t_call0 rfl (Stream_Odd_c e12) (CoL.refl _) (.cons .p0 .nil) rfl rfl <| rM rfl rfl <| bndE h fun v35 e13 h => t_call0 rfl (Stream_Odd_c e13) (CoL.refl _) (.cons .p0 .nil) rfl rfl <| rF rfl rfl rfl <| rF rfl rfl rfl <| n_store_ptr rfl rfl rfl rfl .p1 rfl rfl <| rF rfl rfl rfl <| n_store_ptr rfl rfl rfl rfl .p1 rfl rfl <| rF rfl rfl rfl <| n_store_ptr rfl rfl rfl rfl .p1 rfl rfl <| rF rfl rfl rfl <| n_store_ptr rfl rfl rfl rfl .p1 rfl rfl <| rN <| ATodo.stop <| ImpX.lq [0, 1, 0] ⟨v35.2.L, v35.2.at_, v32.1, v33.1, v34.1, v35.1, h, rfl⟩ rfl rfl
            · exact have h := iteFb hc h; tK <| ATodo.stop <| ImpX.lq [0, 1, 0] ⟨v25.2.L, v25.2.at_, v16, v21.1, v22.1, v23.1, h, rfl⟩ rfl rfl
          · rintro σ' ⟨l26, n27, q28, n29, n30, n31, h, rfl⟩
            unfold Stream_Notes_j2 at h
            exact tR <| rM rfl rfl <| ARun.qv (q_load_ptr_all rfl rfl .p2 rfl) rfl <| n_buildSliceL (xs := ([(⟨(⟨q28, v18.1, v19.1, v20.1, (0 : Int), (100 : Int)⟩ : Letter), n29, n30, n31⟩ : Note)]).map Note.av) rfl rfl rfl rfl rfl rfl <| bndE h fun l36 e14 h => t_append (g := Note.av) rfl rfl rfl rfl rfl rfl rfl rfl (.list _) e14 (fun _ => .p1) rfl fun b37 => rA rfl rfl <| rN <| ATodo.blk <| ATodo.stop <| ImpX.lq [0, 0] ⟨b37, l26, n27, l36, h, rfl⟩ rfl rfl
      · rintro σ' ⟨b14, l12, n13, l15, h, rfl⟩
        unfold Stream_Notes_j1 at h
        refine tR <| ARun.qv (q_addw rfl rfl) rfl <| rM rfl rfl <| rN <| ATodo.stop <| ?_
        obtain rfl := Option.some.inj h
        exact hJ1 _ _ rfl <| ImpX.lq [0, 0] ⟨b14, rfl⟩ rfl rfl
    · refine have h := iteF hc h; ATodo.exit rfl <| have h := outL h hA1; tSR <| rM rfl rfl <| rA rfl rfl <| rN <| ATodo.ret <| ?_
      obtain rfl := Option.some.inj h
      exact ImpX.here ⟨_, .cons (.tmp _ _ rfl) .nil, _, .cons .p0 (.cons .p0 .nil), ⟨b8, rfl, rfl⟩⟩

set_option maxHeartbeats 4000000 in
theorem Q_in_c [GI : GTab] {p0x0 : Int} {p1x0 : Int} {p2x0 : Int} {r : Bool} (h : Q_in p0x0 p1x0 p2x0 = r) : Pu Tryz.prog 63 [I p0x0, I p1x0, I p2x0] (.bool r) := by
  unfold Q_in at h
  refine ACall.bodyN Tryz.func63 rfl Tryz.ntmps63 Tryz.results63 rfl rfl ?_
  refine tSR <| rA rfl rfl <| rN <| tS <| ATodo.cut (fun σ' => ∃ (c1 : Bool), Q_in_j1 c1 = r ∧ σ' = ⟨15, [(6, .bool c1)], []⟩) ?_ ?_
  · refine tR <| rM rfl rfl <| rM rfl rfl <| ARun.qv (q_leq rfl rfl) rfl <| rM rfl rfl <| ARun.guard_dt rfl rfl rfl (fun hc => ?_) (fun hc => ?_)
    · rw [andTd hc] at h
      exact rM rfl rfl <| rY rfl rfl rfl <| rM rfl rfl <| rY rfl rfl rfl <| ARun.qv (q_leq rfl rfl) rfl <| rT rfl rfl rfl <| rA rfl rfl <| rN <| ATodo.stop <| ImpX.lq [] ⟨decide (p0x0 ≤ p2x0), h, rfl⟩ rfl rfl
    · rw [andFd hc] at h
      exact rG rfl rfl rfl rfl <| rG rfl rfl rfl rfl <| rE rfl rfl rfl <| rA rfl rfl <| rN <| ATodo.stop <| ImpX.lq [] ⟨false, h, rfl⟩ rfl rfl
  · rintro σ' ⟨c1, h, rfl⟩
    unfold Q_in_j1 at h
    refine ATodo.ret <| ?_
    obtain rfl := h
    exact ImpX.here ⟨_, .cons (.tmp _ _ rfl) .nil, rfl⟩

set_option maxHeartbeats 4000000 in
theorem Q_only_c [GI : GTab] {p0x0 : Str} {p1x0 : Str} {r : Bool} (h : Q_only p0x0 p1x0 = some r) : Pu Tryz.prog 126 [.str p0x0, .str p1x0] (.bool r) := by
  unfold Q_only at h
  refine ACall.bodyN Tryz.func126 rfl Tryz.ntmps126 Tryz.results126 rfl rfl ?_
  refine tSR <| rA rfl rfl <| rN <| tS <| tSR <| rM rfl rfl <| ARun.qv (q_len_str rfl) rfl <| rM rfl rfl <| rN <| ATodo.block <| ATodo.loopI (fun x : Int => Q_only_b1 p0x0 p1x0 x) (fun x σ' => σ' = ⟨18, [(0, .str p0x0), (1, .str p1x0), (7, I (p0x0.length : Int)), (8, I x)], []⟩) h ?_ ?_
  · exact ImpX.lq [] rfl rfl rfl
  · intro n2 z1 σ' J1 hmk h hJ1 hA1
    obtain rfl := hmk
    replace h : Q_only_b1 p0x0 p1x0 n2 = some z1 := h
    unfold Q_only_b1 at h
    refine tSR <| ARun.qv (q_lss rfl rfl) rfl <| rN <| tS <| ATodo.cond_d rfl (fun hc => ?_) (fun hc => ?_)
    · refine have h := iteT hc h; tK <| tS <| ATodo.block <| tSR <| rM rfl rfl <| rA rfl rfl <| rN <| tSR <| rM rfl rfl <| rM rfl rfl <| rM rfl rfl <| bndE h fun c3 e1 h => ARun.qv (t_index_str rfl rfl e1) rfl <| r_callp rfl (strings_IndexByte_c rfl) (CoL.refl _) rfl <| ARun.qv (q_lss rfl rfl) rfl <| rN <| ATodo.cond_d rfl (fun hc => ?_) (fun hc => ?_)
      · refine have h := iteT hc h; tSR <| rA rfl rfl <| rN <| ATodo.ret <| have h := outL h hA1; ?_
        obtain rfl := Option.some.inj h
        exact ImpX.here ⟨_, .cons (.tmp _ _ rfl) .nil, rfl⟩
      · refine have h := iteF hc h; tK <| ATodo.blk <| tR <| ARun.qv (q_addw rfl rfl) rfl <| rM rfl rfl <| rN <| ATodo.stop <| ?_
        obtain rfl := Option.some.inj h
        exact hJ1 _ _ rfl <| ImpX.lq [] rfl rfl rfl
    · refine have h := iteF hc h; ATodo.exit rfl <| have h := outL h hA1; tSR <| rA rfl rfl <| rN <| ATodo.ret <| ?_
      obtain rfl := Option.some.inj h
      exact ImpX.here ⟨_, .cons (.tmp _ _ rfl) .nil, rfl⟩

set_option maxHeartbeats 4000000 in
theorem Q_Key_c [GI : GTab] {p0x0 : Str} {r : Bool} (h : Q_Key p0x0 = some r) : Pu Tryz.prog 59 [.str p0x0] (.bool r) := by
  unfold Q_Key at h
  refine ACall.bodyN Tryz.func59 rfl Tryz.ntmps59 Tryz.results59 rfl rfl ?_
  refine tSR <| rA rfl rfl <| rN <| tS <| ATodo.cut (fun σ' => ∃ (c1 : Bool), Q_Key_j1 c1 = some r ∧ σ' = ⟨15, [(2, .bool c1)], []⟩) ?_ ?_
  · refine tR <| rM rfl rfl <| ARun.qv (q_len_str rfl) rfl <| r_callp rfl (Q_in_c rfl) (CoL.refl _) rfl <| rM rfl rfl <| ARun.guard rfl rfl rfl (fun hc => ?_) (fun hc => ?_)
    · refine have h := iteT hc h; rM rfl rfl <| rY rfl rfl rfl <| bndE h fun l2 e1 h => ARun.qv (t_slice_str rfl .none (.some _ _ _ rfl) rfl rfl e1) rfl <| rY rfl rfl rfl <| bndE h fun v3 e2 h => r_callp rfl (Q_only_c e2) (CoL.refl _) rfl <| rT rfl rfl rfl <| rM rfl rfl <| ARun.guard rfl rfl rfl (fun hc => ?_) (fun hc => ?_)
      · exact have h := iteT hc h; rM rfl rfl <| rY rfl rfl rfl <| bndE h fun v4 e3 h => r_callp rfl (Q_only_c e3) (CoL.refl _) rfl <| rT rfl rfl rfl <| rA rfl rfl <| rN <| ATodo.stop <| ImpX.lq [] ⟨v4, h, rfl⟩ rfl rfl
      · exact have h := iteFb hc h; rG rfl rfl rfl rfl <| rE rfl rfl rfl <| rA rfl rfl <| rN <| ATodo.stop <| ImpX.lq [] ⟨false, h, rfl⟩ rfl rfl
    · exact have h := iteFb hc h; rG rfl rfl rfl rfl <| rG rfl rfl rfl rfl <| rE rfl rfl rfl <| rM rfl rfl <| rG rfl rfl rfl rfl <| rG rfl rfl rfl rfl <| rE rfl rfl rfl <| rA rfl rfl <| rN <| ATodo.stop <| ImpX.lq [] ⟨false, h, rfl⟩ rfl rfl
  · rintro σ' ⟨c1, h, rfl⟩
    unfold Q_Key_j1 at h
    refine ATodo.ret <| ?_
    obtain rfl := Option.some.inj h
    exact ImpX.here ⟨_, .cons (.tmp _ _ rfl) .nil, rfl⟩

set_option maxHeartbeats 4000000 in
theorem Q_Printed_1x_c [GI : GTab] {p0x0 : Int} {r : Bool} (h : Q_Printed_1x p0x0 = r) : Pu Tryz.prog 193 [.int .i32 p0x0] (.bool r) := by
  unfold Q_Printed_1x at h
  refine ACall.bodyN Tryz.func193 rfl Tryz.ntmps193 Tryz.results193 rfl rfl ?_
  refine tSR <| rA rfl rfl <| rN <| tS <| ATodo.cut (fun σ' => ∃ (c1 : Bool), Q_Printed_1x_j1 c1 = r ∧ σ' = ⟨9, [(2, .bool c1)], []⟩) ?_ ?_
  · refine tR <| rM rfl rfl <| ARun.qv (q_lss rfl rfl) rfl <| rM rfl rfl <| ARun.guard_df rfl rfl rfl (fun hc => ?_) (fun hc => ?_)
    · rw [orFd hc] at h
      exact rM rfl rfl <| rY rfl rfl rfl <| ARun.qv (q_eql rfl rfl) rfl <| rE rfl rfl rfl <| rA rfl rfl <| rN <| ATodo.stop <| ImpX.lq [] ⟨decide (p0x0 = (127 : Int)), h, rfl⟩ rfl rfl
    · rw [orTd hc] at h
      exact rG rfl rfl rfl rfl <| rT rfl rfl rfl <| rA rfl rfl <| rN <| ATodo.stop <| ImpX.lq [] ⟨true, h, rfl⟩ rfl rfl
  · rintro σ' ⟨c1, h, rfl⟩
    unfold Q_Printed_1x_j1 at h
    refine ATodo.ret <| ?_
    obtain rfl := h
    exact ImpX.here ⟨_, .cons (.tmp _ _ rfl) .nil, rfl⟩

set_option maxHeartbeats 4000000 in
theorem Q_Printed_c {p0x0 : Str} {r : Bool} (h : Q_Printed p0x0 = some r) : Pu Tryz.prog 142 [.str p0x0] (.bool r) := by
  unfold Q_Printed at h
  refine ACall.bodyN Tryz.func142 rfl Tryz.ntmps142 Tryz.results142 rfl rfl ?_
  refine tSR <| rA rfl rfl <| rN <| tS <| ATodo.cut (fun σ' => ∃ (c1 : Bool), Q_Printed_j1 c1 = some r ∧ σ' = ⟨10, [(2, .bool c1)], []⟩) ?_ ?_
  · refine tR <| rM rfl rfl <| bndE h fun v2 e1 h => r_callp rfl (utf8_ValidString_c e1) (CoL.refl _) rfl <| rM rfl rfl <| ARun.guard rfl rfl rfl (fun hc => ?_) (fun hc => ?_)
    · exact have h := iteT hc h; rM rfl rfl <| rY rfl rfl rfl <| bndE h fun v3 e2 h => r_callpB rfl (strings_ContainsFunc_c (fun e => Q_Printed_1x_c (Option.some.inj e)) e2) (.cons (.co (.refl _)) (.cons (.funcL _ _ _ .nil) .nil)) rfl rfl <| rY rfl rfl rfl <| ARun.qv (q_not rfl) rfl <| rT rfl rfl rfl <| rA rfl rfl <| rN <| ATodo.stop <| ImpX.lq [] ⟨!v3, h, rfl⟩ rfl rfl
    · exact have h := iteFb hc h; rG rfl rfl rfl rfl <| rG rfl rfl rfl rfl <| rE rfl rfl rfl <| rA rfl rfl <| rN <| ATodo.stop <| ImpX.lq [] ⟨false, h, rfl⟩ rfl rfl
  · rintro σ' ⟨c1, h, rfl⟩
    unfold Q_Printed_j1 at h
    refine ATodo.ret <| ?_
    obtain rfl := Option.some.inj h
    exact ImpX.here ⟨_, .cons (.tmp _ _ rfl) .nil, rfl⟩

set_option maxHeartbeats 4000000 in
theorem Q_Moment_c [GI : GTab] {p0x0 : Int} {r : Bool} (h : Q_Moment p0x0 = r) : Pu Tryz.prog 60 [I p0x0] (.bool r) := by
  unfold Q_Moment at h
  refine ACall.bodyN Tryz.func60 rfl Tryz.ntmps60 Tryz.results60 rfl rfl ?_
  refine tSR <| rA rfl rfl <| rN <| tSR <| rM rfl rfl <| r_callp rfl (Q_in_c rfl) (CoL.refl _) rfl <| rA rfl rfl <| rN <| ATodo.ret <| ?_
  obtain rfl := h
  exact ImpX.here ⟨_, .cons (.tmp _ _ rfl) .nil, rfl⟩

set_option maxHeartbeats 4000000 in
theorem Q_LetterFault_c {p0x0 : Letter} {r : Int} (h : Q_LetterFault p0x0 = some r) : Pu Tryz.prog 87 [.agg [.str p0x0.Id, .str p0x0.Slot, .str p0x0.Body, I p0x0.Prio, I p0x0.At, I p0x0.Until]] (I r) := by
  unfold Q_LetterFault at h
  refine ACall.bodyN Tryz.func87 rfl Tryz.ntmps87 Tryz.results87 rfl rfl ?_
  refine tSR <| n_box rfl rfl rfl rfl fun b1 => rA rfl rfl <| rN <| tS <| ATodo.block <| tS <| ATodo.cut (fun σ' => ∃ (c2 : Bool), Q_LetterFault_j1 p0x0 c2 = some r ∧ σ' = ⟨52, [(1, .ptr b1 0), (3, .bool c2)], [(b1, .cells [.str p0x0.Id, .str p0x0.Slot, .str p0x0.Body, I p0x0.Prio, I p0x0.At, I p0x0.Until])]⟩) ?_ ?_
  · refine tR <| rF rfl rfl rfl <| rL rfl rfl .p0 rfl rfl <| bndE h fun v3 e1 h => r_callp rfl (Q_Key_c e1) (CoL.refl _) rfl <| ARun.qv (q_not rfl) rfl <| rM rfl rfl <| ARun.guard rfl rfl rfl (fun hc => ?_) (fun hc => ?_)
    · refine have h := iteFb hc h; rF rfl rfl rfl <| rY rfl rfl rfl <| rL rfl rfl .p0 rfl rfl <| rY rfl rfl rfl <| ARun.qv (q_sne rfl rfl) rfl <| rY rfl rfl rfl <| rM rfl rfl <| ARun.guard_dt rfl rfl rfl (fun hc => ?_) (fun hc => ?_)
      · exact have h := iteT hc h; rF rfl rfl rfl <| rY rfl rfl rfl <| rL rfl rfl .p0 rfl rfl <| rY rfl rfl rfl <| bndE h fun v4 e2 h => r_callp rfl (Q_Key_c e2) (CoL.refl _) rfl <| rY rfl rfl rfl <| ARun.qv (q_not rfl) rfl <| rY rfl rfl rfl <| rT rfl rfl rfl <| rE rfl rfl rfl <| rA rfl rfl <| rN <| ATodo.stop <| ImpX.lq [0] ⟨!v4, h, rfl⟩ rfl rfl
      · exact have h := iteF hc h; rG rfl rfl rfl rfl <| rG rfl rfl rfl rfl <| rG rfl rfl rfl rfl <| rY rfl rfl rfl <| rE rfl rfl rfl <| rE rfl rfl rfl <| rA rfl rfl <| rN <| ATodo.stop <| ImpX.lq [0] ⟨false, h, rfl⟩ rfl rfl
    · exact have h := iteT hc h; rG rfl rfl rfl rfl <| rG rfl rfl rfl rfl <| rG rfl rfl rfl rfl <| ARun.guard_und rfl rfl rfl <| ARun.guard_und rfl rfl rfl <| ARun.guard_und rfl rfl rfl <| ARun.guard_und rfl rfl rfl <| rG rfl rfl rfl rfl <| rT rfl rfl rfl <| rA rfl rfl <| rN <| ATodo.stop <| ImpX.lq [0] ⟨true, h, rfl⟩ rfl rfl
  · rintro σ' ⟨c2, h, rfl⟩
    unfold Q_LetterFault_j1 at h
    refine ATodo.cond rfl (fun hc => ?_) (fun hc => ?_)
    · refine have h := iteT hc h; tSR <| rA rfl rfl <| rN <| ATodo.ret <| ?_
      obtain rfl := Option.some.inj h
      exact ImpX.here ⟨_, .cons (.tmp _ _ rfl) .nil, rfl⟩
    · refine have h := iteFb hc h; tSR <| rF rfl rfl rfl <| rL rfl rfl .p0 rfl rfl <| ARun.qv (q_len_str rfl) rfl <| ARun.qv (q_gtr rfl rfl) rfl <| rA rfl rfl <| rN <| ATodo.cond_d rfl (fun hc => ?_) (fun hc => ?_)
      · refine have h := iteT hc h; tSR <| rA rfl rfl <| rN <| ATodo.ret <| ?_
        obtain rfl := Option.some.inj h
        exact ImpX.here ⟨_, .cons (.tmp _ _ rfl) .nil, rfl⟩
      · refine have h := iteF hc h; tSR <| rF rfl rfl rfl <| rL rfl rfl .p0 rfl rfl <| bndE h fun v5 e3 h => r_callp rfl (Q_Printed_c e3) (CoL.refl _) rfl <| ARun.qv (q_not rfl) rfl <| rA rfl rfl <| rN <| ATodo.cond rfl (fun hc => ?_) (fun hc => ?_)
        · refine have h := iteT hc h; tSR <| rA rfl rfl <| rN <| ATodo.ret <| ?_
          obtain rfl := Option.some.inj h
          exact ImpX.here ⟨_, .cons (.tmp _ _ rfl) .nil, rfl⟩
        · refine have h := iteFb hc h; tS <| ATodo.cut (fun σ' => ∃ (c6 : Bool), Q_LetterFault_j2 c6 = some r ∧ σ' = ⟨52, [(29, .bool c6)], []⟩) ?_ ?_
          · refine tR <| rF rfl rfl rfl <| rL rfl rfl .p0 rfl rfl <| r_callp rfl (Q_in_c rfl) (CoL.refl _) rfl <| ARun.qv (q_not rfl) rfl <| rM rfl rfl <| ARun.guard rfl rfl rfl (fun hc => ?_) (fun hc => ?_)
            · rw [orFb hc] at h
              refine rF rfl rfl rfl <| rY rfl rfl rfl <| rL rfl rfl .p0 rfl rfl <| rY rfl rfl rfl <| r_callp rfl (Q_Moment_c rfl) (CoL.refl _) rfl <| rY rfl rfl rfl <| ARun.qv (q_not rfl) rfl <| rE rfl rfl rfl <| rM rfl rfl <| ARun.guard rfl rfl rfl (fun hc => ?_) (fun hc => ?_)
              · rw [orFb hc] at h
                refine rF rfl rfl rfl <| rY rfl rfl rfl <| rL rfl rfl .p0 rfl rfl <| rY rfl rfl rfl <| rF rfl rfl rfl <| rY rfl rfl rfl <| rL rfl rfl .p0 rfl rfl <| rY rfl rfl rfl <| ARun.qv (q_leq rfl rfl) rfl <| rE rfl rfl rfl <| rM rfl rfl <| ARun.guard_df rfl rfl rfl (fun hc => ?_) (fun hc => ?_)
                · rw [orFd hc] at h
                  exact rF rfl rfl rfl <| rY rfl rfl rfl <| rL rfl rfl .p0 rfl rfl <| rY rfl rfl rfl <| ARun.qv (q_gtr rfl rfl) rfl <| rE rfl rfl rfl <| rA rfl rfl <| rN <| ATodo.stop <| ImpX.lq [] ⟨decide ((345686400000 : Int) < p0x0.Until), h, rfl⟩ rfl rfl
                · rw [orTd hc] at h
                  exact rG rfl rfl rfl rfl <| rG rfl rfl rfl rfl <| rT rfl rfl rfl <| rA rfl rfl <| rN <| ATodo.stop <| ImpX.lq [] ⟨true, h, rfl⟩ rfl rfl
              · rw [orTb hc] at h
                exact rG rfl rfl rfl rfl <| rG rfl rfl rfl rfl <| rG rfl rfl rfl rfl <| rG rfl rfl rfl rfl <| rT rfl rfl rfl <| rM rfl rfl <| rG rfl rfl rfl rfl <| rG rfl rfl rfl rfl <| rG rfl rfl rfl rfl <| rT rfl rfl rfl <| rA rfl rfl <| rN <| ATodo.stop <| ImpX.lq [] ⟨true, h, rfl⟩ rfl rfl
            · rw [orTb hc] at h
              exact rG rfl rfl rfl rfl <| rG rfl rfl rfl rfl <| rG rfl rfl rfl rfl <| rT rfl rfl rfl <| rM rfl rfl <| rG rfl rfl rfl rfl <| rG rfl rfl rfl rfl <| rG rfl rfl rfl rfl <| rG rfl rfl rfl rfl <| rG rfl rfl rfl rfl <| rT rfl rfl rfl <| rM rfl rfl <| rG rfl rfl rfl rfl <| rG rfl rfl rfl rfl <| rG rfl rfl rfl rfl <| rT rfl rfl rfl <| rA rfl rfl <| rN <| ATodo.stop <| ImpX.lq [] ⟨true, h, rfl⟩ rfl rfl
          · rintro σ' ⟨c6, h, rfl⟩
            unfold Q_LetterFault_j2 at h
            refine ATodo.cond rfl (fun hc => ?_) (fun hc => ?_)
            · refine have h := iteT hc h; tSR <| rA rfl rfl <| rN <| ATodo.ret <| ?_
              obtain rfl := Option.some.inj h
              exact ImpX.here ⟨_, .cons (.tmp _ _ rfl) .nil, rfl⟩
            · refine have h := iteFb hc h; tK <| ATodo.blk <| tSR <| rA rfl rfl <| rN <| ATodo.ret <| ?_
              obtain rfl := Option.some.inj h
              exact ImpX.here ⟨_, .cons (.tmp _ _ rfl) .nil, rfl⟩

set_option maxHeartbeats 4000000 in
theorem Q_NotesFault_c {p0x0 : List Note} {r : Int} (h : Q_NotesFault p0x0 = some r) : Pu Tryz.prog 29 [.list 9 (p0x0.map Note.av)] (I r) := by
  unfold Q_NotesFault at h
  refine ACall.bodyN Tryz.func29 rfl Tryz.ntmps29 Tryz.results29 rfl rfl ?_
  refine tSR <| rA rfl rfl <| rN <| tS <| tSR <| rM rfl rfl <| ARun.qv (t_len rfl) rfl <| ARun.qv (q_gtr rfl rfl) rfl <| rN <| ATodo.cond_d rfl (fun hc => ?_) (fun hc => ?_)
  · refine have h := iteT hc h; tSR <| rA rfl rfl <| rN <| ATodo.ret <| ?_
    obtain rfl := Option.some.inj h
    exact ImpX.here ⟨_, .cons (.tmp _ _ rfl) .nil, rfl⟩
  · refine have h := iteF hc h; tK <| tSR <| rA rfl rfl <| rN <| tS <| tSR <| rM rfl rfl <| ARun.qv (t_len rfl) rfl <| rM rfl rfl <| rN <| ATodo.block <| ATodo.loopI (fun x : Str × Int => Q_NotesFault_b1 p0x0 x.1 x.2) (fun x σ' => σ' = ⟨48, [(3, .str x.1), (10, .list 9 (p0x0.map Note.av)), (11, I (p0x0.length : Int)), (12, I x.2)], []⟩) h ?_ ?_
    · exact ImpX.lq [] rfl rfl rfl
    · intro x z1 σ' J1 hmk h hJ1 hA1
      obtain ⟨q3, n4⟩ := x
      obtain rfl := hmk
      replace h : Q_NotesFault_b1 p0x0 q3 n4 = some z1 := h
      unfold Q_NotesFault_b1 at h
      refine tSR <| ARun.qv (q_lss rfl rfl) rfl <| rN <| tS <| ATodo.cond_d rfl (fun hc => ?_) (fun hc => ?_)
      · refine have h := iteT hc h; tK <| tS <| ATodo.block <| tSR <| bndE h fun v5 e1 h => ARun.qv (t_index rfl rfl rfl e1 rfl rfl) rfl <| ARun.qv (q_load_rptr_agg rfl rfl rfl) rfl <| n_alloc rfl rfl rfl rfl fun b6 => n_store_ptr rfl rfl rfl rfl .p0 rfl rfl <| rN <| tS <| tSR <| rF rfl rfl rfl <| ARun.qv (n_load_ptr_part rfl rfl .p0 rfl rfl) rfl <| bndE h fun v7 e2 h => r_callp rfl (Q_LetterFault_c e2) (CoL.refl _) rfl <| rA rfl rfl <| rN <| tSR <| rM rfl rfl <| ARun.qv (q_neq rfl rfl) rfl <| rN <| ATodo.cond_d rfl (fun hc => ?_) (fun hc => ?_)
        · refine have h := iteT hc h; tSR <| rM rfl rfl <| rA rfl rfl <| rN <| ATodo.ret <| have h := outL h hA1; ?_
          obtain rfl := Option.some.inj h
          exact ImpX.here ⟨_, .cons (.tmp _ _ rfl) .nil, rfl⟩
        · refine have h := iteF hc h; tK <| tS <| ATodo.block <| tSR <| rF rfl rfl rfl <| rL rfl rfl .p0 rfl rfl <| r_callp rfl (Q_in_c rfl) (CoL.refl _) rfl <| ARun.qv (q_not rfl) rfl <| rA rfl rfl <| rN <| ATodo.cond rfl (fun hc => ?_) (fun hc => ?_)
          · refine have h := iteT hc h; tSR <| rA rfl rfl <| rN <| ATodo.ret <| have h := outL h hA1; ?_
            obtain rfl := Option.some.inj h
            exact ImpX.here ⟨_, .cons (.tmp _ _ rfl) .nil, rfl⟩
          · refine have h := iteFb hc h; tS <| ATodo.cut (fun σ' => ∃ (c8 : Bool), Q_NotesFault_j1 q3 n4 v5 c8 = some z1 ∧ σ' = ⟨48, [(3, .str q3), (5, .ptr b6 0), (10, .list 9 (p0x0.map Note.av)), (11, I (p0x0.length : Int)), (12, I n4), (27, .bool c8)], [(b6, .cells [.str v5.Letter.Id, .str v5.Letter.Slot, .str v5.Letter.Body, I v5.Letter.Prio, I v5.Letter.At, I v5.Letter.Until, I v5.State, I v5.Tries, I v5.Since])]⟩) ?_ ?_
            · refine tR <| rF rfl rfl rfl <| rL rfl rfl .p0 rfl rfl <| r_callp rfl (Q_in_c rfl) (CoL.refl _) rfl <| ARun.qv (q_not rfl) rfl <| rM rfl rfl <| ARun.guard rfl rfl rfl (fun hc => ?_) (fun hc => ?_)
              · rw [orFb hc] at h
                exact rF rfl rfl rfl <| rY rfl rfl rfl <| rL rfl rfl .p0 rfl rfl <| rY rfl rfl rfl <| r_callp rfl (Q_Moment_c rfl) (CoL.refl _) rfl <| rY rfl rfl rfl <| ARun.qv (q_not rfl) rfl <| rE rfl rfl rfl <| rA rfl rfl <| rN <| ATodo.stop <| ImpX.lq [0] ⟨!(Q_Moment v5.Since), h, rfl⟩ rfl rfl
              · rw [orTb hc] at h
                exact rG rfl rfl rfl rfl <| rG rfl rfl rfl rfl <| rG rfl rfl rfl rfl <| rT rfl rfl rfl <| rA rfl rfl <| rN <| ATodo.stop <| ImpX.lq [0] ⟨true, h, rfl⟩ rfl rfl
            · rintro σ' ⟨c8, h, rfl⟩
              unfold Q_NotesFault_j1 at h
              refine ATodo.cond rfl (fun hc => ?_) (fun hc => ?_)
              · refine have h := iteT hc h; tSR <| rA rfl rfl <| rN <| ATodo.ret <| have h := outL h hA1; ?_
                obtain rfl := Option.some.inj h
                exact ImpX.here ⟨_, .cons (.tmp _ _ rfl) .nil, rfl⟩
              · refine have h := iteFb hc h; tSR <| rF rfl rfl rfl <| rF rfl rfl rfl <| rL rfl rfl .p0 rfl rfl <| rM rfl rfl <| ARun.qv (t_sleq rfl rfl) rfl <| rA rfl rfl <| rN <| ATodo.cond rfl (fun hc => ?_) (fun hc => ?_)
                · refine have h := iteT hc h; tSR <| rA rfl rfl <| rN <| ATodo.ret <| have h := outL h hA1; ?_
                  obtain rfl := Option.some.inj h
                  exact ImpX.here ⟨_, .cons (.tmp _ _ rfl) .nil, rfl⟩
                · refine have h := iteFb hc h; tK <| ATodo.blk <| tR <| rF rfl rfl rfl <| rF rfl rfl rfl <| rL rfl rfl .p0 rfl rfl <| rA rfl rfl <| rN <| ATodo.blk <| tR <| ARun.qv (q_addw rfl rfl) rfl <| rM rfl rfl <| rN <| ATodo.stop <| ?_
                  obtain rfl := Option.some.inj h
                  exact hJ1 _ _ rfl <| ImpX.lq [] rfl rfl rfl
      · refine have h := iteF hc h; ATodo.exit rfl <| have h := outL h hA1; tSR <| rA rfl rfl <| rN <| ATodo.ret <| ?_
        obtain rfl := Option.some.inj h
        exact ImpX.here ⟨_, .cons (.tmp _ _ rfl) .nil, rfl⟩

set_option maxHeartbeats 4000000 in
theorem strings_Replace_c {p0x0 : Str} {p1x0 : Str} {p2x0 : Str} {p3x0 : Int} {r : Str} (h : strings_Replace p0x0 p1x0 p2x0 p3x0 = some r) : Pu Tryz.prog 190 [.str p0x0, .str p1x0, .str p2x0, I p3x0] (.str r) := by
  unfold strings_Replace at h
  refine ACall.bodyN Tryz.func190 rfl Tryz.ntmps190 Tryz.results190 rfl rfl ?_
  refine tSR <| rA rfl rfl <| rN <| tS <| tS <| ATodo.cut (fun σ' => ∃ (c1 : Bool), strings_Replace_j1 p0x0 p1x0 p2x0 p3x0 c1 = some r ∧ σ' = ⟨104, [(0, .str p0x0), (1, .str p1x0), (2, .str p2x0), (3, I p3x0), (22, .bool c1)], []⟩) ?_ ?_
  · refine tR <| rM rfl rfl <| rM rfl rfl <| ARun.qv (q_seq rfl rfl) rfl <| rM rfl rfl <| ARun.guard_df rfl rfl rfl (fun hc => ?_) (fun hc => ?_)
    · rw [orFd hc] at h
      exact rM rfl rfl <| rY rfl rfl rfl <| ARun.qv (q_eql rfl rfl) rfl <| rE rfl rfl rfl <| rN <| ATodo.stop <| ImpX.lq [] ⟨decide (p3x0 = (0 : Int)), h, rfl⟩ rfl rfl
    · rw [orTd hc] at h
      exact rG rfl rfl rfl rfl <| rT rfl rfl rfl <| rN <| ATodo.stop <| ImpX.lq [] ⟨true, h, rfl⟩ rfl rfl
  · rintro σ' ⟨c1, h, rfl⟩
    unfold strings_Replace_j1 at h
    refine ATodo.cond rfl (fun hc => ?_) (fun hc => ?_)
    · refine have h := iteT hc h; tSR <| rM rfl rfl <| rA rfl rfl <| rN <| ATodo.ret <| ?_
      obtain rfl := Option.some.inj h
      exact ImpX.here ⟨_, .cons (.tmp _ _ rfl) .nil, rfl⟩
    · refine have h := iteFb hc h; tK <| tS <| tSR <| rM rfl rfl <| rM rfl rfl <| bndE h fun v2 e1 h => r_callp rfl (strings_Count_c e1) (CoL.refl _) rfl <| rA rfl rfl <| rN <| tSR <| rM rfl rfl <| ARun.qv (q_eql rfl rfl) rfl <| rN <| ATodo.cond_d rfl (fun hc => ?_) (fun hc => ?_)
      · refine have h := iteT hc h; tSR <| rM rfl rfl <| rA rfl rfl <| rN <| ATodo.ret <| ?_
        obtain rfl := Option.some.inj h
        exact ImpX.here ⟨_, .cons (.tmp _ _ rfl) .nil, rfl⟩
      · refine have h := iteF hc h; tS <| ATodo.cut (fun σ' => ∃ (c3 : Bool), strings_Replace_j2 p0x0 p1x0 p2x0 p3x0 v2 c3 = some r ∧ σ' = ⟨104, [(0, .str p0x0), (1, .str p1x0), (2, .str p2x0), (3, I p3x0), (9, I v2), (36, .bool c3)], []⟩) ?_ ?_
        · refine tR <| rM rfl rfl <| ARun.qv (q_lss rfl rfl) rfl <| rM rfl rfl <| ARun.guard_df rfl rfl rfl (fun hc => ?_) (fun hc => ?_)
          · rw [orFd hc] at h
            exact rM rfl rfl <| rY rfl rfl rfl <| rM rfl rfl <| rY rfl rfl rfl <| ARun.qv (q_lss rfl rfl) rfl <| rE rfl rfl rfl <| rN <| ATodo.stop <| ImpX.lq [] ⟨decide (v2 < p3x0), h, rfl⟩ rfl rfl
          · rw [orTd hc] at h
            exact rG rfl rfl rfl rfl <| rG rfl rfl rfl rfl <| rT rfl rfl rfl <| rN <| ATodo.stop <| ImpX.lq [] ⟨true, h, rfl⟩ rfl rfl
        · rintro σ' ⟨c3, h, rfl⟩
          unfold strings_Replace_j2 at h
          refine ATodo.cut (fun σ' => ∃ (n4 : Int), strings_Replace_j3 p0x0 p1x0 p2x0 n4 = some r ∧ σ' = ⟨104, [(0, .str p0x0), (1, .str p1x0), (2, .str p2x0), (3, I n4)], []⟩) ?_ ?_
          · refine ATodo.cond rfl (fun hc => ?_) (fun hc => ?_)
            · exact have h := iteT hc h; tR <| rM rfl rfl <| rA rfl rfl <| rN <| ATodo.stop <| ImpX.lq [] ⟨v2, h, rfl⟩ rfl rfl
            · exact have h := iteFb hc h; tK <| ATodo.stop <| ImpX.lq [] ⟨p3x0, h, rfl⟩ rfl rfl
          · rintro σ' ⟨n4, h, rfl⟩
            unfold strings_Replace_j3 at h
            refine tSR <| n_allocB 5 rfl rfl fun b5 => rN <| tSR <| rM rfl rfl <| ARun.qv (q_len_str rfl) rfl <| rM rfl rfl <| rM rfl rfl <| ARun.qv (q_len_str rfl) rfl <| rM rfl rfl <| ARun.qv (q_len_str rfl) rfl <| ARun.qv (q_subw rfl rfl) rfl <| ARun.qv (q_mulw rfl rfl) rfl <| ARun.qv (q_addw rfl rfl) rfl <| bndE h fun v6 e2 h => t_call1 rfl (strings_Builder_Grow_c e2) (CoL.refl _) (.cons .p0 .nil) (fun _ => rfl) rfl fun b7 => rN <| tSR <| rA rfl rfl <| rN <| tS <| tSR <| rM rfl rfl <| ARun.qv (q_len_str rfl) rfl <| ARun.qv (q_gtr rfl rfl) rfl <| rN <| ATodo.cut (fun σ' => ∃ (b9 : Bk) (q8 : Str) (n10 : Int), strings_Replace_j4 p0x0 q8 n10 = some r ∧ σ' = ⟨104, [(0, .str p0x0), (10, .ptr b5 0), (11, I n10)], [(b5, .bld 93 5 b9.blk q8)]⟩) ?_ ?_
            · refine ATodo.cond_d rfl (fun hc => ?_) (fun hc => ?_)
              · refine have h := iteT hc h; tSR <| rM rfl rfl <| rM rfl rfl <| rN <| ATodo.block <| ATodo.loopI (fun x : Str × Int × Int => strings_Replace_b1 p0x0 p1x0 p2x0 n4 x.1 x.2.1 x.2.2) (fun x σ' => ∃ (b16 : Bk), σ' = ⟨104, [(0, .str p0x0), (1, .str p1x0), (2, .str p2x0), (10, .ptr b5 0), (11, I x.2.1), (52, I n4), (53, I x.2.2)], [(b5, .bld 93 5 b16.blk x.1)]⟩) h ?_ ?_
                · exact ImpX.lq [0] ⟨b7, rfl⟩ rfl rfl
                · intro x z1 σ' J1 hmk h hJ1 hA1
                  obtain ⟨q15, n17, n18⟩ := x
                  obtain ⟨b16, rfl⟩ := hmk
                  replace h : strings_Replace_b1 p0x0 p1x0 p2x0 n4 q15 n17 n18 = some z1 := h
                  unfold strings_Replace_b1 at h
                  refine tSR <| ARun.qv (q_lss rfl rfl) rfl <| rN <| tS <| ATodo.cond_d rfl (fun hc => ?_) (fun hc => ?_)
                  · refine have h := iteT hc h; tK <| tS <| ATodo.block <| tSR <| rM rfl rfl <| rM rfl rfl <| rM rfl rfl <| bndE h fun l19 e3 h => ARun.qv (t_slice_str rfl (.some _ _ _ rfl) .none rfl rfl e3) rfl <| rM rfl rfl <| bndE h fun v20 e4 h => r_callp rfl (strings_Index_c e4) (CoL.refl _) rfl <| ARun.qv (q_addw rfl rfl) rfl <| rA rfl rfl <| rN <| tSR <| rM rfl rfl <| rM rfl rfl <| rM rfl rfl <| bndE h fun l21 e5 h => ARun.qv (t_slice_str rfl (.some _ _ _ rfl) (.some _ _ _ rfl) rfl rfl e5) rfl <| bndE h fun q22 e6 h => t_call1 rfl (strings_Builder_WriteString_c e6) (CoL.refl _) (.cons .p0 .nil) (fun _ => rfl) rfl fun b23 => rN <| tSR <| rM rfl rfl <| bndE h fun q24 e7 h => t_call1 rfl (strings_Builder_WriteString_c e7) (CoL.refl _) (.cons .p0 .nil) (fun _ => rfl) rfl fun b25 => rN <| tR <| rM rfl rfl <| rM rfl rfl <| ARun.qv (q_len_str rfl) rfl <| ARun.qv (q_addw rfl rfl) rfl <| rA rfl rfl <| rN <| ATodo.blk <| tR <| ARun.qv (q_addw rfl rfl) rfl <| rM rfl rfl <| rN <| ATodo.stop <| ?_
                    obtain rfl := Option.some.inj h
                    exact hJ1 _ _ rfl <| ImpX.lq [0] ⟨b25, rfl⟩ rfl rfl
                  · exact have h := iteF hc h; ATodo.exit rfl <| have h := outL h hA1; ATodo.stop <| ImpX.lq [0] ⟨b16, q15, n17, h, rfl⟩ rfl rfl
              · refine have h := iteF hc h; tSR <| rM rfl rfl <| bndE h fun q26 e8 h => t_call1 rfl (strings_Builder_WriteString_c e8) (CoL.refl _) (.cons .p0 .nil) (fun _ => rfl) rfl fun b27 => rN <| tSR <| rM rfl rfl <| ARun.qv (q_subw rfl rfl) rfl <| rM rfl rfl <| rN <| ATodo.block <| ATodo.loopI (fun x : Str × Int × Int => strings_Replace_b2 p0x0 p2x0 n4 x.1 x.2.1 x.2.2) (fun x σ' => ∃ (b33 : Bk), σ' = ⟨104, [(0, .str p0x0), (2, .str p2x0), (10, .ptr b5 0), (11, I x.2.1), (77, I (w64 (n4 - (1 : Int)))), (78, I x.2.2)], [(b5, .bld 93 5 b33.blk x.1)]⟩) h ?_ ?_
                · exact ImpX.lq [0] ⟨b27, rfl⟩ rfl rfl
                · intro x z2 σ' J2 hmk h hJ2 hA2
                  obtain ⟨q32, n34, n35⟩ := x
                  obtain ⟨b33, rfl⟩ := hmk
                  replace h : strings_Replace_b2 p0x0 p2x0 n4 q32 n34 n35 = some z2 := h
                  unfold strings_Replace_b2 at h
                  refine tSR <| ARun.qv (q_lss rfl rfl) rfl <| rN <| tS <| ATodo.cond_d rfl (fun hc => ?_) (fun hc => ?_)
                  · refine have h := iteT hc h; tK <| tS <| ATodo.block <| tSR <| rM rfl rfl <| rM rfl rfl <| bndE h fun l36 e9 h => ARun.qv (t_slice_str rfl (.some _ _ _ rfl) .none rfl rfl e9) rfl <| bndE h fun v37 e10 h => r_callp rfl (utf8_DecodeRuneInString_c e10) (CoL.refl _) rfl <| rM rfl rfl <| rX rfl rfl rfl <| rX rfl rfl rfl <| rA rfl rfl <| rA rfl rfl <| rN <| tSR <| rM rfl rfl <| rM rfl rfl <| ARun.qv (q_addw rfl rfl) rfl <| rA rfl rfl <| rN <| tSR <| rM rfl rfl <| rM rfl rfl <| rM rfl rfl <| bndE h fun l38 e11 h => ARun.qv (t_slice_str rfl (.some _ _ _ rfl) (.some _ _ _ rfl) rfl rfl e11) rfl <| bndE h fun q39 e12 h => t_call1 rfl (strings_Builder_WriteString_c e12) (CoL.refl _) (.cons .p0 .nil) (fun _ => rfl) rfl fun b40 => rN <| tSR <| rM rfl rfl <| bndE h fun q41 e13 h => t_call1 rfl (strings_Builder_WriteString_c e13) (CoL.refl _) (.cons .p0 .nil) (fun _ => rfl) rfl fun b42 => rN <| tR <| rM rfl rfl <| rA rfl rfl <| rN <| ATodo.blk <| tR <| ARun.qv (q_addw rfl rfl) rfl <| rM rfl rfl <| rN <| ATodo.stop <| ?_
                    obtain rfl := Option.some.inj h
                    exact hJ2 _ _ rfl <| ImpX.lq [0] ⟨b42, rfl⟩ rfl rfl
                  · exact have h := iteF hc h; ATodo.exit rfl <| have h := outL h hA2; ATodo.stop <| ImpX.lq [0] ⟨b33, q32, n34, h, rfl⟩ rfl rfl
            · rintro σ' ⟨b9, q8, n10, h, rfl⟩
              unfold strings_Replace_j4 at h
              refine tSR <| rM rfl rfl <| rM rfl rfl <| bndE h fun l43 e14 h => ARun.qv (t_slice_str rfl (.some _ _ _ rfl) .none rfl rfl e14) rfl <| bndE h fun q44 e15 h => t_call1 rfl (strings_Builder_WriteString_c e15) (CoL.refl _) (.cons .p0 .nil) (fun _ => rfl) rfl fun b45 => rN <| tSR <| t_call0 rfl strings_Builder_String_c (CoL.refl _) (.cons .p0 .nil) rfl rfl <| rA rfl rfl <| rN <| ATodo.ret <| ?_
              obtain rfl := Option.some.inj h
              exact ImpX.here ⟨_, .cons (.tmp _ _ rfl) .nil, rfl⟩

set_option maxHeartbeats 4000000 in
theorem strings_ReplaceAll_c {p0x0 : Str} {p1x0 : Str} {p2x0 : Str} {r : Str} (h : strings_ReplaceAll p0x0 p1x0 p2x0 = some r) : Pu Tryz.prog 141 [.str p0x0, .str p1x0, .str p2x0] (.str r) := by
  unfold strings_ReplaceAll at h
  refine ACall.bodyN Tryz.func141 rfl Tryz.ntmps141 Tryz.results141 rfl rfl ?_
  refine tSR <| rA rfl rfl <| rN <| tSR <| rM rfl rfl <| rM rfl rfl <| rM rfl rfl <| bndE h fun v1 e1 h => r_callp rfl (strings_Replace_c e1) (CoL.refl _) rfl <| rA rfl rfl <| rN <| ATodo.ret <| ?_
  obtain rfl := Option.some.inj h
  exact ImpX.here ⟨_, .cons (.tmp _ _ rfl) .nil, rfl⟩

set_option maxHeartbeats 4000000 in
theorem Q_Quoted_c {p0x0 : Str} {r : Str} (h : Q_Quoted p0x0 = some r) : Pu Tryz.prog 88 [.str p0x0] (.str r) := by
  unfold Q_Quoted at h
  refine ACall.bodyN Tryz.func88 rfl Tryz.ntmps88 Tryz.results88 rfl rfl ?_
  refine tSR <| rA rfl rfl <| rN <| tSR <| rM rfl rfl <| bndE h fun v1 e1 h => r_callp rfl (strings_ReplaceAll_c e1) (CoL.refl _) rfl <| bndE h fun v2 e2 h => r_callp rfl (strings_ReplaceAll_c e2) (CoL.refl _) rfl <| bndE h fun q3 e3 h => ARun.qv (q_sadd e3 rfl rfl) rfl <| bndE h fun q4 e4 h => ARun.qv (q_sadd e4 rfl rfl) rfl <| rA rfl rfl <| rN <| ATodo.ret <| ?_
  obtain rfl := Option.some.inj h
  exact ImpX.here ⟨_, .cons (.tmp _ _ rfl) .nil, rfl⟩

set_option maxHeartbeats 4000000 in
theorem strings_Join_c {p0x0 : List Str} {p1x0 : Str} {r : Str} (h : strings_Join p0x0 p1x0 = some r) : Pu Tryz.prog 64 [.list 1 (p0x0.map AV.str), .str p1x0] (.str r) := by
  unfold strings_Join at h
  refine ACall.bodyN Tryz.func64 rfl Tryz.ntmps64 Tryz.results64 rfl rfl ?_
  refine tSR <| rA rfl rfl <| rN <| tS <| tSR <| rM rfl rfl <| ARun.qv (t_len rfl) rfl <| rN <| ATodo.block <| tSR <| ARun.qv (q_eql rfl rfl) rfl <| rA rfl rfl <| rN <| ATodo.cond_d rfl (fun hc => ?_) (fun hc => ?_)
  · refine have h := iteT hc h; tSR <| rA rfl rfl <| rN <| ATodo.ret <| ?_
    obtain rfl := Option.some.inj h
    exact ImpX.here ⟨_, .cons (.tmp _ _ rfl) .nil, rfl⟩
  · refine have h := iteF hc h; tSR <| ARun.qv (q_eql rfl rfl) rfl <| rA rfl rfl <| rN <| ATodo.cond_d rfl (fun hc => ?_) (fun hc => ?_)
    · refine have h := iteT hc h; tSR <| rM rfl rfl <| bndE h fun v1 e1 h => ARun.qv (t_index rfl rfl rfl e1 rfl rfl) rfl <| ARun.qv (q_load_rptr rfl rfl rfl) rfl <| rA rfl rfl <| rN <| ATodo.ret <| ?_
      obtain rfl := Option.some.inj h
      exact ImpX.here ⟨_, .cons (.tmp _ _ rfl) .nil, rfl⟩
    · refine have h := iteF hc h; tK <| ATodo.blk <| tSR <| rA rfl rfl <| rN <| tS <| tSR <| rM rfl rfl <| ARun.qv (q_len_str rfl) rfl <| ARun.qv (q_gtr rfl rfl) rfl <| rN <| ATodo.cut (fun σ' => ∃ (n2 : Int), strings_Join_j1 p0x0 p1x0 n2 = some r ∧ σ' = ⟨75, [(0, .list 1 (p0x0.map AV.str)), (1, .str p1x0), (5, I n2)], []⟩) ?_ ?_
      · refine ATodo.cond_d rfl (fun hc => ?_) (fun hc => ?_)
        · refine have h := iteT hc h; tS <| tSR <| rM rfl rfl <| ARun.qv (q_len_str rfl) rfl <| rM rfl rfl <| ARun.qv (t_len rfl) rfl <| ARun.qv (q_subw rfl rfl) rfl <| bndE h fun n3 e2 h => ARun.qv (t_quoS rfl rfl e2) rfl <| ARun.qv (q_geq rfl rfl) rfl <| rN <| ATodo.cond_d rfl (fun hc => ?_) (fun hc => ?_)
          · refine have h := iteT hc h; tR <| ?_
            cases h
          · exact have h := iteF hc h; tK <| tR <| rM rfl rfl <| rM rfl rfl <| ARun.qv (q_len_str rfl) rfl <| rM rfl rfl <| ARun.qv (t_len rfl) rfl <| ARun.qv (q_subw rfl rfl) rfl <| ARun.qv (q_mulw rfl rfl) rfl <| ARun.qv (q_addw rfl rfl) rfl <| rA rfl rfl <| rN <| ATodo.stop <| ImpX.lq [] ⟨w64 ((0 : Int) + (w64 ((p1x0.length : Int) * (w64 ((p0x0.length : Int) - (1 : Int)))))), h, rfl⟩ rfl rfl
        · exact have h := iteF hc h; tK <| ATodo.stop <| ImpX.lq [] ⟨(0 : Int), h, rfl⟩ rfl rfl
      · rintro σ' ⟨n2, h, rfl⟩
        unfold strings_Join_j1 at h
        refine tS <| tSR <| rM rfl rfl <| ARun.qv (t_len rfl) rfl <| rM rfl rfl <| rN <| ATodo.block <| ATodo.loopI (fun x : Int × Int => strings_Join_b1 p0x0 p1x0 x.1 x.2) (fun x σ' => σ' = ⟨75, [(0, .list 1 (p0x0.map AV.str)), (1, .str p1x0), (5, I x.1), (39, .list 1 (p0x0.map AV.str)), (40, I (p0x0.length : Int)), (41, I x.2)], []⟩) h ?_ ?_
        · exact ImpX.lq [] rfl rfl rfl
        · intro x z1 σ' J1 hmk h hJ1 hA1
          obtain ⟨n6, n7⟩ := x
          obtain rfl := hmk
          replace h : strings_Join_b1 p0x0 p1x0 n6 n7 = some z1 := h
          unfold strings_Join_b1 at h
          refine tSR <| ARun.qv (q_lss rfl rfl) rfl <| rN <| tS <| ATodo.cond_d rfl (fun hc => ?_) (fun hc => ?_)
          · refine have h := iteT hc h; tK <| tS <| ATodo.block <| tSR <| bndE h fun v8 e3 h => ARun.qv (t_index rfl rfl rfl e3 rfl rfl) rfl <| ARun.qv (q_load_rptr rfl rfl rfl) rfl <| rA rfl rfl <| rN <| tS <| tSR <| rM rfl rfl <| ARun.qv (q_len_str rfl) rfl <| rM rfl rfl <| ARun.qv (q_subw rfl rfl) rfl <| ARun.qv (q_gtr rfl rfl) rfl <| rN <| ATodo.cond_d rfl (fun hc => ?_) (fun hc => ?_)
            · refine have h := iteT hc h; tR <| ?_
              cases h
            · refine have h := iteF hc h; tK <| tR <| rM rfl rfl <| rM rfl rfl <| ARun.qv (q_len_str rfl) rfl <| ARun.qv (q_addw rfl rfl) rfl <| rA rfl rfl <| rN <| ATodo.blk <| tR <| ARun.qv (q_addw rfl rfl) rfl <| rM rfl rfl <| rN <| ATodo.stop <| ?_
              obtain rfl := Option.some.inj h
              exact hJ1 _ _ rfl <| ImpX.lq [] rfl rfl rfl
          · refine have h := iteF hc h; ATodo.exit rfl <| have h := outL h hA1; ?_
            unfold strings_Join_k2 at h
            refine tSR <| n_allocB 5 rfl rfl fun b9 => rN <| tSR <| rM rfl rfl <| bndE h fun v10 e4 h => t_call1 rfl (strings_Builder_Grow_c e4) (CoL.refl _) (.cons .p0 .nil) (fun _ => rfl) rfl fun b11 => rN <| tSR <| rM rfl rfl <| bndE h fun v12 e5 h => ARun.qv (t_index rfl rfl rfl e5 rfl rfl) rfl <| ARun.qv (q_load_rptr rfl rfl rfl) rfl <| bndE h fun q13 e6 h => t_call1 rfl (strings_Builder_WriteString_c e6) (CoL.refl _) (.cons .p0 .nil) (fun _ => rfl) rfl fun b14 => rN <| tS <| tSR <| rM rfl rfl <| bndE h fun l15 e7 h => ARun.qv (t_slice_list rfl rfl (.some _ _ _ rfl) .none rfl rfl e7) rfl <| ARun.qv (t_len rfl) rfl <| rM rfl rfl <| rN <| ATodo.block <| ATodo.loopI (fun x : Str × Int => strings_Join_b2 p1x0 l15 x.1 x.2) (fun x σ' => ∃ (b20 : Bk), σ' = ⟨75, [(1, .str p1x0), (8, .ptr b9 0), (63, .list 1 (l15.map AV.str)), (64, I (l15.length : Int)), (65, I x.2)], [(b9, .bld 93 5 b20.blk x.1)]⟩) h ?_ ?_
            · exact ImpX.lq [0] ⟨b14, rfl⟩ rfl rfl
            · intro x z2 σ' J2 hmk h hJ2 hA2
              obtain ⟨q19, n21⟩ := x
              obtain ⟨b20, rfl⟩ := hmk
              replace h : strings_Join_b2 p1x0 l15 q19 n21 = some z2 := h
              unfold strings_Join_b2 at h
              refine tSR <| ARun.qv (q_lss rfl rfl) rfl <| rN <| tS <| ATodo.cond_d rfl (fun hc => ?_) (fun hc => ?_)
              · refine have h := iteT hc h; tK <| tS <| ATodo.block <| tSR <| bndE h fun v22 e8 h => ARun.qv (t_index rfl rfl rfl e8 rfl rfl) rfl <| ARun.qv (q_load_rptr rfl rfl rfl) rfl <| rA rfl rfl <| rN <| tSR <| rM rfl rfl <| bndE h fun q23 e9 h => t_call1 rfl (strings_Builder_WriteString_c e9) (CoL.refl _) (.cons .p0 .nil) (fun _ => rfl) rfl fun b24 => rN <| tR <| rM rfl rfl <| bndE h fun q25 e10 h => t_call1 rfl (strings_Builder_WriteString_c e10) (CoL.refl _) (.cons .p0 .nil) (fun _ => rfl) rfl fun b26 => rN <| ATodo.blk <| tR <| ARun.qv (q_addw rfl rfl) rfl <| rM rfl rfl <| rN <| ATodo.stop <| ?_
                obtain rfl := Option.some.inj h
                exact hJ2 _ _ rfl <| ImpX.lq [0] ⟨b26, rfl⟩ rfl rfl
              · refine have h := iteF hc h; ATodo.exit rfl <| have h := outL h hA2; tSR <| t_call0 rfl strings_Builder_String_c (CoL.refl _) (.cons .p0 .nil) rfl rfl <| rA rfl rfl <| rN <| ATodo.ret <| ?_
                obtain rfl := Option.some.inj h
                exact ImpX.here ⟨_, .cons (.tmp _ _ rfl) .nil, rfl⟩

set_option maxHeartbeats 4000000 in
theorem Q_NoteLines_c {p0x0 : List Note} {r : Str} (h : Q_NoteLines p0x0 = some r) : Pu Tryz.prog 30 [.list 9 (p0x0.map Note.av)] (.str r) := by
  unfold Q_NoteLines at h
  refine ACall.bodyN Tryz.func30 rfl Tryz.ntmps30 Tryz.results30 rfl rfl ?_
  refine tSR <| rA rfl rfl <| rN <| tSR <| rA rfl rfl <| rN <| tS <| tSR <| rM rfl rfl <| ARun.qv (t_len rfl) rfl <| rM rfl rfl <| rN <| ATodo.block <| ATodo.loopI (fun x : Str × Int => Q_NoteLines_b1 p0x0 x.1 x.2) (fun x σ' => σ' = ⟨66, [(3, .str x.1), (10, .list 9 (p0x0.map Note.av)), (11, I (p0x0.length : Int)), (12, I x.2)], []⟩) h ?_ ?_
  · exact ImpX.lq [] rfl rfl rfl
  · intro x z1 σ' J1 hmk h hJ1 hA1
    obtain ⟨q3, n4⟩ := x
    obtain rfl := hmk
    replace h : Q_NoteLines_b1 p0x0 q3 n4 = some z1 := h
    unfold Q_NoteLines_b1 at h
    refine tSR <| ARun.qv (q_lss rfl rfl) rfl <| rN <| tS <| ATodo.cond_d rfl (fun hc => ?_) (fun hc => ?_)
    · refine have h := iteT hc h; tK <| tS <| ATodo.block <| tSR <| bndE h fun v5 e1 h => ARun.qv (t_index rfl rfl rfl e1 rfl rfl) rfl <| ARun.qv (q_load_rptr_agg rfl rfl rfl) rfl <| n_alloc rfl rfl rfl rfl fun b6 => n_store_ptr rfl rfl rfl rfl .p0 rfl rfl <| rN <| tSR <| rF rfl rfl rfl <| rF rfl rfl rfl <| rL rfl rfl .p0 rfl rfl <| rA rfl rfl <| rN <| tS <| tSR <| rM rfl rfl <| ARun.qv (q_seq rfl rfl) rfl <| rN <| ATodo.cut (fun σ' => ∃ (q7 : Str), Q_NoteLines_j1 q3 n4 v5 q7 = some z1 ∧ σ' = ⟨66, [(3, .str q3), (5, .ptr b6 0), (6, .str q7), (10, .list 9 (p0x0.map Note.av)), (11, I (p0x0.length : Int)), (12, I n4)], [(b6, .cells [.str v5.Letter.Id, .str v5.Letter.Slot, .str v5.Letter.Body, I v5.Letter.Prio, I v5.Letter.At, I v5.Letter.Until, I v5.State, I v5.Tries, I v5.Since])]⟩) ?_ ?_
      · refine ATodo.cond_d rfl (fun hc => ?_) (fun hc => ?_)
        · exact have h := iteT hc h; tR <| rA rfl rfl <| rN <| ATodo.stop <| ImpX.lq [0] ⟨([45] : Str), h, rfl⟩ rfl rfl
        · exact have h := iteF hc h; tK <| ATodo.stop <| ImpX.lq [0] ⟨v5.Letter.Slot, h, rfl⟩ rfl rfl
      · rintro σ' ⟨q7, h, rfl⟩
        unfold Q_NoteLines_j1 at h
        refine tSR <| rF rfl rfl rfl <| rF rfl rfl rfl <| rL rfl rfl .p0 rfl rfl <| rM rfl rfl <| n_buildSlice rfl rfl rfl rfl rfl rfl fun b8 => rA rfl rfl <| rN <| tS <| tSR <| rF rfl rfl rfl <| rF rfl rfl rfl <| rL rfl rfl .p1 rfl rfl <| rF rfl rfl rfl <| rF rfl rfl rfl <| rL rfl rfl .p1 rfl rfl <| rF rfl rfl rfl <| rF rfl rfl rfl <| rL rfl rfl .p1 rfl rfl <| rF rfl rfl rfl <| rL rfl rfl .p1 rfl rfl <| rF rfl rfl rfl <| rL rfl rfl .p1 rfl rfl <| rF rfl rfl rfl <| rL rfl rfl .p1 rfl rfl <| n_buildSliceL (xs := ([v5.Letter.Prio, v5.Letter.At, v5.Letter.Until, v5.State, v5.Tries, v5.Since] : List Int).map I) rfl rfl rfl rfl rfl rfl <| ARun.qv (t_len rfl) rfl <| rM rfl rfl <| rN <| ATodo.block <| ATodo.loopI (fun x : (List Str) × Int => Q_NoteLines_b2 q3 n4 v5 x.1 x.2) (fun x σ' => ∃ (b12 : Bk), σ' = ⟨66, [(3, .str q3), (5, .ptr b6 0), (7, .sl 1 b12 0 x.1.length), (10, .list 9 (p0x0.map Note.av)), (11, I (p0x0.length : Int)), (12, I n4), (41, .list 1 ([v5.Letter.Prio, v5.Letter.At, v5.Letter.Until, v5.State, v5.Tries, v5.Since].map I)), (42, I ([v5.Letter.Prio, v5.Letter.At, v5.Letter.Until, v5.State, v5.Tries, v5.Since].length : Int)), (43, I x.2)], [(b6, .cells [.str v5.Letter.Id, .str v5.Letter.Slot, .str v5.Letter.Body, I v5.Letter.Prio, I v5.Letter.At, I v5.Letter.Until, I v5.State, I v5.Tries, I v5.Since]), (b12, .arr 1 (x.1.map AV.str))]⟩) h ?_ ?_
        · exact ImpX.lq [1, 0] ⟨b8, rfl⟩ rfl rfl
        · intro x z2 σ' J2 hmk h hJ2 hA2
          obtain ⟨l13, n14⟩ := x
          obtain ⟨b12, rfl⟩ := hmk
          replace h : Q_NoteLines_b2 q3 n4 v5 l13 n14 = some z2 := h
          unfold Q_NoteLines_b2 at h
          refine tSR <| ARun.qv (q_lss rfl rfl) rfl <| rN <| tS <| ATodo.cond_d rfl (fun hc => ?_) (fun hc => ?_)
          · refine have h := iteT hc h; tK <| tS <| ATodo.block <| tSR <| bndE h fun v15 e2 h => ARun.qv (t_index rfl rfl rfl e2 rfl rfl) rfl <| ARun.qv (q_load_rptr rfl rfl rfl) rfl <| rA rfl rfl <| rN <| tR <| rM rfl rfl <| rM rfl rfl <| bndE h fun v16 e3 h => r_callp rfl (strconv_Itoa_c e3) (CoL.refl _) rfl <| n_buildSliceL (xs := ([v16] : List Str).map AV.str) rfl rfl rfl rfl rfl rfl <| bndE h fun l17 e4 h => t_append (g := AV.str) rfl rfl rfl rfl rfl rfl rfl rfl (.list _) e4 (fun _ => .p1) rfl fun b18 => rA rfl rfl <| rN <| ATodo.blk <| tR <| ARun.qv (q_addw rfl rfl) rfl <| rM rfl rfl <| rN <| ATodo.stop <| ?_
            obtain rfl := Option.some.inj h
            exact hJ2 _ _ rfl <| ImpX.lq [0, 0] ⟨b18, rfl⟩ rfl rfl
          · refine have h := iteF hc h; ATodo.exit rfl <| have h := outL h hA2; ?_
            unfold Q_NoteLines_k2 at h
            refine tR <| rM rfl rfl <| rM rfl rfl <| rF rfl rfl rfl <| rF rfl rfl rfl <| rL rfl rfl .p0 rfl rfl <| bndE h fun v19 e5 h => r_callp rfl (Q_Quoted_c e5) (CoL.refl _) rfl <| n_buildSliceL (xs := ([v19] : List Str).map AV.str) rfl rfl rfl rfl rfl rfl <| bndE h fun l20 e6 h => t_append (g := AV.str) rfl rfl rfl rfl rfl rfl rfl rfl (.list _) e6 (fun _ => .p1) rfl fun b21 => bndE h fun v22 e7 h => r_callpB rfl (strings_Join_c e7) (.cons (CoB.arrT .p1) (.cons (.co (.refl _)) .nil)) rfl rfl <| bndE h fun q23 e8 h => ARun.qv (q_sadd e8 rfl rfl) rfl <| bndE h fun q24 e9 h => ARun.qv (q_sadd e9 rfl rfl) rfl <| rA rfl rfl <| rN <| ATodo.blk <| tR <| ARun.qv (q_addw rfl rfl) rfl <| rM rfl rfl <| rN <| ATodo.stop <| ?_
            obtain rfl := Option.some.inj h
            exact hJ1 _ _ rfl <| ImpX.lq [] rfl rfl rfl
    · refine have h := iteF hc h; ATodo.exit rfl <| have h := outL h hA1; tSR <| rM rfl rfl <| rA rfl rfl <| rN <| ATodo.ret <| ?_
      obtain rfl := Option.some.inj h
      exact ImpX.here ⟨_, .cons (.tmp _ _ rfl) .nil, rfl⟩

set_option maxHeartbeats 4000000 in
theorem Stream_Changed_c [GI : GTab] {b_0 : Bk} {p0x0 : Fleetmake_Stream} {p1x0 : Str} {p2x0 : Str} {r : Str × Fleetmake_Stream} (h : Stream_Changed p0x0 p1x0 p2x0 = some r) : ACall Tryz.prog 53 [.ptr b_0 0, .str p1x0, .str p2x0] [(b_0, .cells [.list 1 (p0x0.L.map I), I p0x0.at_])] (T0 ([(b_0, .cells [.list 1 (r.2.L.map I), I r.2.at_])]) (.str r.1)) := by
  unfold Stream_Changed at h
  refine ACall.lessH ?_
  refine ACall.bodyN Tryz.func53 rfl Tryz.ntmps53 Tryz.results53 rfl rfl ?_
  refine tSR <| rA rfl rfl <| rN <| tS <| tS <| ATodo.cut (fun σ' => ∃ (c1 : Bool), Stream_Changed_j1 p0x0 p1x0 p2x0 c1 = some r ∧ σ' = ⟨63, [(0, .ptr b_0 0), (1, .str p1x0), (2, .str p2x0), (14, .bool c1)], [(b_0, .cells [.list 1 (p0x0.L.map I), I p0x0.at_])]⟩) ?_ ?_
  · refine tR <| rM rfl rfl <| ARun.qv (q_seq rfl rfl) rfl <| rM rfl rfl <| ARun.guard_df rfl rfl rfl (fun hc => ?_) (fun hc => ?_)
    · rw [orFd hc] at h
      exact rM rfl rfl <| rY rfl rfl rfl <| ARun.qv (q_seq rfl rfl) rfl <| rE rfl rfl rfl <| rN <| ATodo.stop <| ImpX.lq [0] ⟨decide (p2x0 = ([] : Str)), h, rfl⟩ rfl rfl
    · rw [orTd hc] at h
      exact rG rfl rfl rfl rfl <| rT rfl rfl rfl <| rN <| ATodo.stop <| ImpX.lq [0] ⟨true, h, rfl⟩ rfl rfl
  · rintro σ' ⟨c1, h, rfl⟩
    unfold Stream_Changed_j1 at h
    refine ATodo.cond rfl (fun hc => ?_) (fun hc => ?_)
    · refine have h := iteT hc h; tSR <| rM rfl rfl <| rA rfl rfl <| rN <| ATodo.ret <| ?_
      obtain rfl := Option.some.inj h
      exact ImpX.here ⟨_, .cons (.tmp _ _ rfl) .nil, _, .cons .p0 .nil, ⟨rfl, rfl⟩⟩
    · refine have h := iteFb hc h; tK <| tSR <| rM rfl rfl <| rM rfl rfl <| ARun.qv (q_len_str rfl) rfl <| bndE h fun v2 e1 h => t_call0 rfl (Stream_Next_c e1) (CoL.refl _) (.cons .p0 .nil) rfl rfl <| rA rfl rfl <| rN <| tSR <| rM rfl rfl <| rM rfl rfl <| rM rfl rfl <| ARun.qv (q_len_str rfl) rfl <| bndE h fun v3 e2 h => t_call0 rfl (Stream_Next_c e2) (CoL.refl _) (.cons .p0 .nil) rfl rfl <| bndE h fun c4 e3 h => ARun.qv (t_index_str rfl rfl e3) rfl <| rA rfl rfl <| rN <| tS <| tSR <| rM rfl rfl <| bndE h fun v5 e4 h => t_call0 rfl (Stream_Next_c e4) (CoL.refl _) (.cons .p0 .nil) rfl rfl <| rN <| ATodo.block <| tSR <| ARun.qv (q_eql rfl rfl) rfl <| rA rfl rfl <| rN <| ATodo.cond_d rfl (fun hc => ?_) (fun hc => ?_)
      · refine have h := iteT hc h; tS <| ATodo.regionM (id := 7) (A := [0, 0, 3, 0, 8, 24, 63, 0, 0, 256, 896, 2047, 4095]) 13 mixed rfl (by kernel_rfl) (by kernel_rfl) <| AM.qv (q_move rfl) rfl <| AM.qv (q_move rfl) rfl <| bndE h fun l6 e5 h => AM.qv (t_slice_str rfl .none (.some _ _ _ rfl) rfl rfl e5) rfl <| AM.qv (q_move rfl) rfl <| AM.qv (q_conv_int rfl) rfl <| AM.qv (q_conv_is rfl) rfl <| bndE h fun q7 e6 h => AM.qv (q_sadd e6 rfl rfl) rfl <| AM.qv (q_move rfl) rfl <| AM.qv (q_move rfl) rfl <| AM.qv (q_addw rfl rfl) rfl <| bndE h fun l8 e7 h => AM.qv (t_slice_str rfl (.some _ _ _ rfl) .none rfl rfl e7) rfl <| bndE h fun q9 e8 h => AM.qv (q_sadd e8 rfl rfl) rfl <| AM.qv (q_assign rfl) rfl <| AM.nil <| rN <| ATodo.ret <| ?_
        obtain rfl := Option.some.inj h
        exact ImpX.here ⟨_, .cons (.tmp _ _ rfl) .nil, _, .cons .p0 .nil, ⟨rfl, rfl⟩⟩
      · refine have h := iteF hc h; tSR <| ARun.qv (q_eql rfl rfl) rfl <| rA rfl rfl <| rN <| ATodo.cond_d rfl (fun hc => ?_) (fun hc => ?_)
        · refine have h := iteT hc h; tS <| ATodo.regionM (id := 9) (A := [0, 0, 3, 0, 8, 24, 63, 0, 0, 384, 1023, 2047]) 12 mixed rfl (by kernel_rfl) (by kernel_rfl) <| AM.qv (q_move rfl) rfl <| AM.qv (q_move rfl) rfl <| bndE h fun l10 e9 h => AM.qv (t_slice_str rfl .none (.some _ _ _ rfl) rfl rfl e9) rfl <| AM.qv (q_move rfl) rfl <| AM.qv (q_conv_int rfl) rfl <| AM.qv (q_conv_is rfl) rfl <| bndE h fun q11 e10 h => AM.qv (q_sadd e10 rfl rfl) rfl <| AM.qv (q_move rfl) rfl <| AM.qv (q_move rfl) rfl <| bndE h fun l12 e11 h => AM.qv (t_slice_str rfl (.some _ _ _ rfl) .none rfl rfl e11) rfl <| bndE h fun q13 e12 h => AM.qv (q_sadd e12 rfl rfl) rfl <| AM.qv (q_assign rfl) rfl <| AM.nil <| rN <| ATodo.ret <| ?_
          obtain rfl := Option.some.inj h
          exact ImpX.here ⟨_, .cons (.tmp _ _ rfl) .nil, _, .cons .p0 .nil, ⟨rfl, rfl⟩⟩
        · refine have h := iteF hc h; tK <| ATodo.blk <| tS <| ATodo.regionM (id := 10) (A := [0, 0, 3, 0, 0, 16, 56, 127, 255]) 9 mixed rfl (by kernel_rfl) (by kernel_rfl) <| AM.qv (q_move rfl) rfl <| AM.qv (q_move rfl) rfl <| bndE h fun l14 e13 h => AM.qv (t_slice_str rfl .none (.some _ _ _ rfl) rfl rfl e13) rfl <| AM.qv (q_move rfl) rfl <| AM.qv (q_move rfl) rfl <| AM.qv (q_addw rfl rfl) rfl <| bndE h fun l15 e14 h => AM.qv (t_slice_str rfl (.some _ _ _ rfl) .none rfl rfl e14) rfl <| bndE h fun q16 e15 h => AM.qv (q_sadd e15 rfl rfl) rfl <| AM.qv (q_assign rfl) rfl <| AM.nil <| rN <| ATodo.ret <| ?_
          obtain rfl := Option.some.inj h
          exact ImpX.here ⟨_, .cons (.tmp _ _ rfl) .nil, _, .cons .p0 .nil, ⟨rfl, rfl⟩⟩

set_option maxHeartbeats 4000000 in
theorem Stream_NoteText_c {b_0 : Bk} {p0x0 : Fleetmake_Stream} {r : Str × Fleetmake_Stream} (h : Stream_NoteText p0x0 = some r) : ACall Tryz.prog 27 [.ptr b_0 0] [(b_0, .cells [.list 1 (p0x0.L.map I), I p0x0.at_])] (T0 ([(b_0, .cells [.list 1 (r.2.L.map I), I r.2.at_])]) (.str r.1)) := by
  unfold Stream_NoteText at h
  refine ACall.lessH ?_
  refine ACall.bodyN Tryz.func27 rfl Tryz.ntmps27 Tryz.results27 rfl rfl ?_
  refine tSR <| rA rfl rfl <| rN <| tSR <| rA rfl rfl <| rN <| tS <| tSR <| rM rfl rfl <| bndE h fun v1 e1 h => t_call1 rfl (Stream_Notes_c e1) (CoL.refl _) (.cons .p0 .nil) (fun _ => rfl) rfl fun b2 => rA rfl rfl <| rN <| tSR <| rM rfl rfl <| bndE h fun v3 e2 h => r_callpB rfl (Q_NotesFault_c e2) (.cons (CoB.arrT .p1) .nil) rfl rfl <| ARun.qv (q_eql rfl rfl) rfl <| rN <| ATodo.cut (fun σ' => ∃ (q4 : Str), Stream_NoteText_j1 v1 q4 = some r ∧ σ' = ⟨22, [(0, .ptr b_0 0), (3, .str q4)], [(b_0, .cells [.list 1 (v1.2.L.map I), I v1.2.at_])]⟩) ?_ ?_
  · refine ATodo.cond_d rfl (fun hc => ?_) (fun hc => ?_)
    · exact have h := iteT hc h; tR <| rM rfl rfl <| bndE h fun v5 e3 h => r_callpB rfl (Q_NoteLines_c e3) (.cons (CoB.arrT .p1) .nil) rfl rfl <| rA rfl rfl <| rN <| ATodo.stop <| ImpX.lq [0] ⟨v5, h, rfl⟩ rfl rfl
    · exact have h := iteF hc h; tK <| ATodo.stop <| ImpX.lq [0] ⟨([] : Str), h, rfl⟩ rfl rfl
  · rintro σ' ⟨q4, h, rfl⟩
    unfold Stream_NoteText_j1 at h
    refine tS <| tSR <| rM rfl rfl <| n_buildSliceL (xs := ([(0 : Int), (0 : Int), (1 : Int), (2 : Int)]).map I) rfl rfl rfl rfl rfl rfl <| bndE h fun v6 e4 h => t_call0 rfl (Stream_Pick_c e4) (CoL.refl _) (.cons .p0 .nil) rfl rfl <| rM rfl rfl <| rN <| ATodo.block <| ATodo.loopI (fun x : (List Int) × Int × Str × Int => Stream_NoteText_b1 v6 x.1 x.2.1 x.2.2.1 x.2.2.2) (fun x σ' => σ' = ⟨22, [(0, .ptr b_0 0), (3, .str x.2.2.1), (14, I v6.1), (15, I x.2.2.2)], [(b_0, .cells [.list 1 (x.1.map I), I x.2.1])]⟩) h ?_ ?_
    · exact ImpX.lq [0] rfl rfl rfl
    · intro x z1 σ' J1 hmk h hJ1 hA1
      obtain ⟨l11, n12, q13, n14⟩ := x
      obtain rfl := hmk
      replace h : Stream_NoteText_b1 v6 l11 n12 q13 n14 = some z1 := h
      unfold Stream_NoteText_b1 at h
      refine tSR <| ARun.qv (q_lss rfl rfl) rfl <| rN <| tS <| ATodo.cond_d rfl (fun hc => ?_) (fun hc => ?_)
      · refine have h := iteT hc h; tK <| tS <| ATodo.block <| tR <| rM rfl rfl <| rM rfl rfl <| bndE h fun v15 e5 h => t_call0 rfl (Stream_Changed_c e5) (CoL.refl _) (.cons .p0 .nil) rfl rfl <| rA rfl rfl <| rN <| ATodo.blk <| tR <| ARun.qv (q_addw rfl rfl) rfl <| rM rfl rfl <| rN <| ATodo.stop <| ?_
        obtain rfl := Option.some.inj h
        exact hJ1 _ _ rfl <| ImpX.lq [0] rfl rfl rfl
      · refine have h := iteF hc h; ATodo.exit rfl <| have h := outL h hA1; tSR <| rM rfl rfl <| rA rfl rfl <| rN <| ATodo.ret <| ?_
        obtain rfl := Option.some.inj h
        exact ImpX.here ⟨_, .cons (.tmp _ _ rfl) .nil, _, .cons .p0 .nil, ⟨rfl, rfl⟩⟩

set_option maxHeartbeats 4000000 in
theorem base_Key_c [GI : GTab] {p0x0 : Str} {r : Bool} (h : base_Key p0x0 = some r) : Pu Tryz.prog 118 [.str p0x0] (.bool r) := by
  unfold base_Key at h
  refine ACall.bodyN Tryz.func118 rfl Tryz.ntmps118 Tryz.results118 rfl rfl ?_
  refine tSR <| rA rfl rfl <| rN <| tS <| tS <| ATodo.cut (fun σ' => ∃ (c1 : Bool), base_Key_j1 p0x0 c1 = some r ∧ σ' = ⟨54, [(0, .str p0x0), (21, .bool c1)], []⟩) ?_ ?_
  · refine tR <| rM rfl rfl <| ARun.qv (q_seq rfl rfl) rfl <| rM rfl rfl <| ARun.guard_df rfl rfl rfl (fun hc => ?_) (fun hc => ?_)
    · refine have h := iteF hc h; rM rfl rfl <| rY rfl rfl rfl <| ARun.qv (q_len_str rfl) rfl <| rY rfl rfl rfl <| ARun.qv (q_gtr rfl rfl) rfl <| rE rfl rfl rfl <| rM rfl rfl <| ARun.guard_df rfl rfl rfl (fun hc => ?_) (fun hc => ?_)
      · refine have h := iteF hc h; rM rfl rfl <| rY rfl rfl rfl <| bndE h fun c2 e1 h => ARun.qv (t_index_str rfl rfl e1) rfl <| rY rfl rfl rfl <| ARun.qv (q_lss rfl rfl) rfl <| rE rfl rfl rfl <| rM rfl rfl <| ARun.guard_df rfl rfl rfl (fun hc => ?_) (fun hc => ?_)
        · exact have h := iteF hc h; rM rfl rfl <| rY rfl rfl rfl <| bndE h fun c3 e2 h => ARun.qv (t_index_str rfl rfl e2) rfl <| rY rfl rfl rfl <| ARun.qv (q_gtr rfl rfl) rfl <| rE rfl rfl rfl <| rN <| ATodo.stop <| ImpX.lq [] ⟨decide ((122 : Int) < (c3.toNat : Int)), h, rfl⟩ rfl rfl
        · exact have h := iteT hc h; rG rfl rfl rfl rfl <| rG rfl rfl rfl rfl <| rT rfl rfl rfl <| rN <| ATodo.stop <| ImpX.lq [] ⟨true, h, rfl⟩ rfl rfl
      · exact have h := iteT hc h; rG rfl rfl rfl rfl <| rG rfl rfl rfl rfl <| rT rfl rfl rfl <| rM rfl rfl <| rG rfl rfl rfl rfl <| rG rfl rfl rfl rfl <| rG rfl rfl rfl rfl <| rT rfl rfl rfl <| rN <| ATodo.stop <| ImpX.lq [] ⟨true, h, rfl⟩ rfl rfl
    · exact have h := iteT hc h; rG rfl rfl rfl rfl <| rG rfl rfl rfl rfl <| rT rfl rfl rfl <| rM rfl rfl <| rG rfl rfl rfl rfl <| rG rfl rfl rfl rfl <| rG rfl rfl rfl rfl <| rT rfl rfl rfl <| rM rfl rfl <| rG rfl rfl rfl rfl <| rG rfl rfl rfl rfl <| rG rfl rfl rfl rfl <| rT rfl rfl rfl <| rN <| ATodo.stop <| ImpX.lq [] ⟨true, h, rfl⟩ rfl rfl
  · rintro σ' ⟨c1, h, rfl⟩
    unfold base_Key_j1 at h
    refine ATodo.cond rfl (fun hc => ?_) (fun hc => ?_)
    · refine have h := iteT hc h; tSR <| rA rfl rfl <| rN <| ATodo.ret <| ?_
      obtain rfl := Option.some.inj h
      exact ImpX.here ⟨_, .cons (.tmp _ _ rfl) .nil, rfl⟩
    · refine have h := iteFb hc h; tK <| tS <| tSR <| rM rfl rfl <| ARun.qv (q_len_str rfl) rfl <| rM rfl rfl <| rN <| ATodo.block <| ATodo.loopI (fun x : Int => base_Key_b1 p0x0 x) (fun x σ' => σ' = ⟨54, [(0, .str p0x0), (23, I (p0x0.length : Int)), (24, I x)], []⟩) h ?_ ?_
      · exact ImpX.lq [] rfl rfl rfl
      · intro n5 z1 σ' J1 hmk h hJ1 hA1
        obtain rfl := hmk
        replace h : base_Key_b1 p0x0 n5 = some z1 := h
        unfold base_Key_b1 at h
        refine tSR <| ARun.qv (q_lss rfl rfl) rfl <| rN <| tS <| ATodo.cond_d rfl (fun hc => ?_) (fun hc => ?_)
        · refine have h := iteT hc h; tK <| tS <| ATodo.block <| tSR <| rM rfl rfl <| rA rfl rfl <| rN <| tSR <| rM rfl rfl <| rM rfl rfl <| bndE h fun c6 e3 h => ARun.qv (t_index_str rfl rfl e3) rfl <| rA rfl rfl <| rN <| tS <| ATodo.cut (fun σ' => ∃ (c7 : Bool), base_Key_j2 n5 c7 = some z1 ∧ σ' = ⟨54, [(0, .str p0x0), (23, I (p0x0.length : Int)), (24, I n5), (52, .bool c7)], []⟩) ?_ ?_
          · refine tR <| rM rfl rfl <| ARun.qv (q_geq rfl rfl) rfl <| rM rfl rfl <| ARun.guard_dt rfl rfl rfl (fun hc => ?_) (fun hc => ?_)
            · rw [if_pos hc] at h
              refine rM rfl rfl <| rY rfl rfl rfl <| ARun.qv (q_leq rfl rfl) rfl <| rT rfl rfl rfl <| rM rfl rfl <| ARun.guard_df rfl rfl rfl (fun hc => ?_) (fun hc => ?_)
              · rw [if_neg hc] at h
                refine rM rfl rfl <| rY rfl rfl rfl <| ARun.qv (q_geq rfl rfl) rfl <| rY rfl rfl rfl <| rM rfl rfl <| ARun.guard_dt rfl rfl rfl (fun hc => ?_) (fun hc => ?_)
                · rw [if_pos hc] at h
                  refine rM rfl rfl <| rY rfl rfl rfl <| ARun.qv (q_leq rfl rfl) rfl <| rY rfl rfl rfl <| rT rfl rfl rfl <| rE rfl rfl rfl <| rM rfl rfl <| ARun.guard_df rfl rfl rfl (fun hc => ?_) (fun hc => ?_)
                  · rw [if_neg hc] at h
                    refine rM rfl rfl <| rY rfl rfl rfl <| ARun.qv (q_eql rfl rfl) rfl <| rE rfl rfl rfl <| rM rfl rfl <| ARun.guard_df rfl rfl rfl (fun hc => ?_) (fun hc => ?_)
                    · rw [if_neg hc] at h
                      exact rM rfl rfl <| rY rfl rfl rfl <| ARun.qv (q_eql rfl rfl) rfl <| rE rfl rfl rfl <| ARun.qv (q_not_d rfl) rfl <| rN <| ATodo.stop <| ImpX.lq [] ⟨decide (¬ ((c6.toNat : Int) = (95 : Int))), h, rfl⟩ rfl rfl
                    · rw [if_pos hc] at h
                      exact rG rfl rfl rfl rfl <| rT rfl rfl rfl <| ARun.qv (q_not rfl) rfl <| rN <| ATodo.stop <| ImpX.lq [] ⟨!true, h, rfl⟩ rfl rfl
                  · rw [if_pos hc] at h
                    exact rG rfl rfl rfl rfl <| rT rfl rfl rfl <| rM rfl rfl <| rG rfl rfl rfl rfl <| rG rfl rfl rfl rfl <| rT rfl rfl rfl <| ARun.qv (q_not rfl) rfl <| rN <| ATodo.stop <| ImpX.lq [] ⟨!true, h, rfl⟩ rfl rfl
                · rw [if_neg hc] at h
                  refine rG rfl rfl rfl rfl <| rY rfl rfl rfl <| rE rfl rfl rfl <| rE rfl rfl rfl <| rM rfl rfl <| rY rfl rfl rfl <| rM rfl rfl <| rY rfl rfl rfl <| ARun.qv (q_eql rfl rfl) rfl <| rE rfl rfl rfl <| rM rfl rfl <| ARun.guard_df rfl rfl rfl (fun hc => ?_) (fun hc => ?_)
                  · rw [if_neg hc] at h
                    exact rM rfl rfl <| rY rfl rfl rfl <| ARun.qv (q_eql rfl rfl) rfl <| rE rfl rfl rfl <| ARun.qv (q_not_d rfl) rfl <| rN <| ATodo.stop <| ImpX.lq [] ⟨decide (¬ ((c6.toNat : Int) = (95 : Int))), h, rfl⟩ rfl rfl
                  · rw [if_pos hc] at h
                    exact rG rfl rfl rfl rfl <| rT rfl rfl rfl <| ARun.qv (q_not rfl) rfl <| rN <| ATodo.stop <| ImpX.lq [] ⟨!true, h, rfl⟩ rfl rfl
              · rw [if_pos hc] at h
                exact rG rfl rfl rfl rfl <| rG rfl rfl rfl rfl <| ARun.guard_und rfl rfl rfl <| ARun.guard_und rfl rfl rfl <| rG rfl rfl rfl rfl <| rT rfl rfl rfl <| rM rfl rfl <| rG rfl rfl rfl rfl <| rG rfl rfl rfl rfl <| rT rfl rfl rfl <| rM rfl rfl <| rG rfl rfl rfl rfl <| rG rfl rfl rfl rfl <| rT rfl rfl rfl <| ARun.qv (q_not rfl) rfl <| rN <| ATodo.stop <| ImpX.lq [] ⟨!true, h, rfl⟩ rfl rfl
            · rw [if_neg hc] at h
              refine rG rfl rfl rfl rfl <| rE rfl rfl rfl <| rM rfl rfl <| rY rfl rfl rfl <| rM rfl rfl <| rY rfl rfl rfl <| ARun.qv (q_geq rfl rfl) rfl <| rY rfl rfl rfl <| rM rfl rfl <| ARun.guard_dt rfl rfl rfl (fun hc => ?_) (fun hc => ?_)
              · rw [if_pos hc] at h
                refine rM rfl rfl <| rY rfl rfl rfl <| ARun.qv (q_leq rfl rfl) rfl <| rY rfl rfl rfl <| rT rfl rfl rfl <| rE rfl rfl rfl <| rM rfl rfl <| ARun.guard_df rfl rfl rfl (fun hc => ?_) (fun hc => ?_)
                · rw [if_neg hc] at h
                  refine rM rfl rfl <| rY rfl rfl rfl <| ARun.qv (q_eql rfl rfl) rfl <| rE rfl rfl rfl <| rM rfl rfl <| ARun.guard_df rfl rfl rfl (fun hc => ?_) (fun hc => ?_)
                  · rw [if_neg hc] at h
                    exact rM rfl rfl <| rY rfl rfl rfl <| ARun.qv (q_eql rfl rfl) rfl <| rE rfl rfl rfl <| ARun.qv (q_not_d rfl) rfl <| rN <| ATodo.stop <| ImpX.lq [] ⟨decide (¬ ((c6.toNat : Int) = (95 : Int))), h, rfl⟩ rfl rfl
                  · rw [if_pos hc] at h
                    exact rG rfl rfl rfl rfl <| rT rfl rfl rfl <| ARun.qv (q_not rfl) rfl <| rN <| ATodo.stop <| ImpX.lq [] ⟨!true, h, rfl⟩ rfl rfl
                · rw [if_pos hc] at h
                  exact rG rfl rfl rfl rfl <| rT rfl rfl rfl <| rM rfl rfl <| rG rfl rfl rfl rfl <| rG rfl rfl rfl rfl <| rT rfl rfl rfl <| ARun.qv (q_not rfl) rfl <| rN <| ATodo.stop <| ImpX.lq [] ⟨!true, h, rfl⟩ rfl rfl
              · rw [if_neg hc] at h
                refine rG rfl rfl rfl rfl <| rY rfl rfl rfl <| rE rfl rfl rfl <| rE rfl rfl rfl <| rM rfl rfl <| rY rfl rfl rfl <| rM rfl rfl <| rY rfl rfl rfl <| ARun.qv (q_eql rfl rfl) rfl <| rE rfl rfl rfl <| rM rfl rfl <| ARun.guard_df rfl rfl rfl (fun hc => ?_) (fun hc => ?_)
                · rw [if_neg hc] at h
                  exact rM rfl rfl <| rY rfl rfl rfl <| ARun.qv (q_eql rfl rfl) rfl <| rE rfl rfl rfl <| ARun.qv (q_not_d rfl) rfl <| rN <| ATodo.stop <| ImpX.lq [] ⟨decide (¬ ((c6.toNat : Int) = (95 : Int))), h, rfl⟩ rfl rfl
                · rw [if_pos hc] at h
                  exact rG rfl rfl rfl rfl <| rT rfl rfl rfl <| ARun.qv (q_not rfl) rfl <| rN <| ATodo.stop <| ImpX.lq [] ⟨!true, h, rfl⟩ rfl rfl
          · rintro σ' ⟨c7, h, rfl⟩
            unfold base_Key_j2 at h
            refine ATodo.cond rfl (fun hc => ?_) (fun hc => ?_)
            · refine have h := iteT hc h; tSR <| rA rfl rfl <| rN <| ATodo.ret <| have h := outL h hA1; ?_
              obtain rfl := Option.some.inj h
              exact ImpX.here ⟨_, .cons (.tmp _ _ rfl) .nil, rfl⟩
            · refine have h := iteFb hc h; tK <| ATodo.blk <| tR <| ARun.qv (q_addw rfl rfl) rfl <| rM rfl rfl <| rN <| ATodo.stop <| ?_
              obtain rfl := Option.some.inj h
              exact hJ1 _ _ rfl <| ImpX.lq [] rfl rfl rfl
        · refine have h := iteF hc h; ATodo.exit rfl <| have h := outL h hA1; tSR <| rA rfl rfl <| rN <| ATodo.ret <| ?_
          obtain rfl := Option.some.inj h
          exact ImpX.here ⟨_, .cons (.tmp _ _ rfl) .nil, rfl⟩

set_option maxHeartbeats 4000000 in
theorem base_Unmarked_c {p0x0 : Str} {r : Bool} (h : base_Unmarked p0x0 = some r) : Pu Tryz.prog 189 [.str p0x0] (.bool r) := by
  unfold base_Unmarked at h
  refine ACall.bodyN Tryz.func189 rfl Tryz.ntmps189 Tryz.results189 rfl rfl ?_
  refine tSR <| rA rfl rfl <| rN <| tS <| tSR <| rM rfl rfl <| ARun.qv (q_len_str rfl) rfl <| rM rfl rfl <| rN <| ATodo.block <| ATodo.loopI (fun x : Int => base_Unmarked_b1 p0x0 x) (fun x σ' => σ' = ⟨22, [(0, .str p0x0), (5, I (p0x0.length : Int)), (6, I x)], []⟩) h ?_ ?_
  · exact ImpX.lq [] rfl rfl rfl
  · intro n2 z1 σ' J1 hmk h hJ1 hA1
    obtain rfl := hmk
    replace h : base_Unmarked_b1 p0x0 n2 = some z1 := h
    unfold base_Unmarked_b1 at h
    refine tSR <| ARun.qv (q_lss rfl rfl) rfl <| rN <| tS <| ATodo.cond_d rfl (fun hc => ?_) (fun hc => ?_)
    · refine have h := iteT hc h; tK <| tS <| ATodo.block <| tSR <| rM rfl rfl <| rA rfl rfl <| rN <| tS <| ATodo.cut (fun σ' => ∃ (c3 : Bool), base_Unmarked_j1 n2 c3 = some z1 ∧ σ' = ⟨22, [(0, .str p0x0), (5, I (p0x0.length : Int)), (6, I n2), (18, .bool c3)], []⟩) ?_ ?_
      · refine tR <| rM rfl rfl <| rM rfl rfl <| bndE h fun c4 e1 h => ARun.qv (t_index_str rfl rfl e1) rfl <| ARun.qv (q_lss rfl rfl) rfl <| rM rfl rfl <| ARun.guard_df rfl rfl rfl (fun hc => ?_) (fun hc => ?_)
        · exact have h := iteF hc h; rM rfl rfl <| rY rfl rfl rfl <| rM rfl rfl <| rY rfl rfl rfl <| bndE h fun c5 e2 h => ARun.qv (t_index_str rfl rfl e2) rfl <| rY rfl rfl rfl <| ARun.qv (q_eql rfl rfl) rfl <| rE rfl rfl rfl <| rN <| ATodo.stop <| ImpX.lq [] ⟨decide ((c5.toNat : Int) = (127 : Int)), h, rfl⟩ rfl rfl
        · exact have h := iteT hc h; rG rfl rfl rfl rfl <| rG rfl rfl rfl rfl <| rG rfl rfl rfl rfl <| rT rfl rfl rfl <| rN <| ATodo.stop <| ImpX.lq [] ⟨true, h, rfl⟩ rfl rfl
      · rintro σ' ⟨c3, h, rfl⟩
        unfold base_Unmarked_j1 at h
        refine ATodo.cond rfl (fun hc => ?_) (fun hc => ?_)
        · refine have h := iteT hc h; tSR <| rA rfl rfl <| rN <| ATodo.ret <| have h := outL h hA1; ?_
          obtain rfl := Option.some.inj h
          exact ImpX.here ⟨_, .cons (.tmp _ _ rfl) .nil, rfl⟩
        · refine have h := iteFb hc h; tK <| ATodo.blk <| tR <| ARun.qv (q_addw rfl rfl) rfl <| rM rfl rfl <| rN <| ATodo.stop <| ?_
          obtain rfl := Option.some.inj h
          exact hJ1 _ _ rfl <| ImpX.lq [] rfl rfl rfl
    · refine have h := iteF hc h; ATodo.exit rfl <| have h := outL h hA1; ?_
      unfold base_Unmarked_k2 at h
      refine tSR <| rM rfl rfl <| bndE h fun v6 e3 h => r_callp rfl (utf8_ValidString_c e3) (CoL.refl _) rfl <| rA rfl rfl <| rN <| ATodo.ret <| ?_
      obtain rfl := Option.some.inj h
      exact ImpX.here ⟨_, .cons (.tmp _ _ rfl) .nil, rfl⟩

set_option maxHeartbeats 4000000 in
theorem base_Out_c [GI : GTab] {p0x0 : Int} {p1x0 : Int} {p2x0 : Int} {r : Bool} (h : base_Out p0x0 p1x0 p2x0 = r) : Pu Tryz.prog 122 [I p0x0, I p1x0, I p2x0] (.bool r) := by
  unfold base_Out at h
  refine ACall.bodyN Tryz.func122 rfl Tryz.ntmps122 Tryz.results122 rfl rfl ?_
  refine tSR <| rA rfl rfl <| rN <| tS <| ATodo.cut (fun σ' => ∃ (c1 : Bool), base_Out_j1 c1 = r ∧ σ' = ⟨15, [(6, .bool c1)], []⟩) ?_ ?_
  · refine tR <| rM rfl rfl <| rM rfl rfl <| ARun.qv (q_lss rfl rfl) rfl <| rM rfl rfl <| ARun.guard_df rfl rfl rfl (fun hc => ?_) (fun hc => ?_)
    · rw [orFd hc] at h
      exact rM rfl rfl <| rY rfl rfl rfl <| rM rfl rfl <| rY rfl rfl rfl <| ARun.qv (q_gtr rfl rfl) rfl <| rE rfl rfl rfl <| rA rfl rfl <| rN <| ATodo.stop <| ImpX.lq [] ⟨decide (p2x0 < p0x0), h, rfl⟩ rfl rfl
    · rw [orTd hc] at h
      exact rG rfl rfl rfl rfl <| rG rfl rfl rfl rfl <| rT rfl rfl rfl <| rA rfl rfl <| rN <| ATodo.stop <| ImpX.lq [] ⟨true, h, rfl⟩ rfl rfl
  · rintro σ' ⟨c1, h, rfl⟩
    unfold base_Out_j1 at h
    refine ATodo.ret <| ?_
    obtain rfl := h
    exact ImpX.here ⟨_, .cons (.tmp _ _ rfl) .nil, rfl⟩

set_option maxHeartbeats 4000000 in
theorem base_Moment_c [GI : GTab] {p0x0 : Int} {r : Bool} (h : base_Moment p0x0 = r) : Pu Tryz.prog 119 [I p0x0] (.bool r) := by
  unfold base_Moment at h
  refine ACall.bodyN Tryz.func119 rfl Tryz.ntmps119 Tryz.results119 rfl rfl ?_
  refine tSR <| rA rfl rfl <| rN <| tSR <| rM rfl rfl <| r_callp rfl (base_Out_c rfl) (CoL.refl _) rfl <| ARun.qv (q_not rfl) rfl <| rA rfl rfl <| rN <| ATodo.ret <| ?_
  obtain rfl := h
  exact ImpX.here ⟨_, .cons (.tmp _ _ rfl) .nil, rfl⟩

set_option maxHeartbeats 4000000 in
theorem command_CheckLetter_c {p0x0 : Letter} {r : Int} (h : command_CheckLetter p0x0 = some r) : Pu Tryz.prog 140 [.agg [.str p0x0.Id, .str p0x0.Slot, .str p0x0.Body, I p0x0.Prio, I p0x0.At, I p0x0.Until]] (I r) := by
  unfold command_CheckLetter at h
  refine ACall.bodyN Tryz.func140 rfl Tryz.ntmps140 Tryz.results140 rfl rfl ?_
  refine tSR <| n_box rfl rfl rfl rfl fun b1 => rA rfl rfl <| rN <| tS <| ATodo.block <| tS <| ATodo.cut (fun σ' => ∃ (c2 : Bool), command_CheckLetter_j1 p0x0 c2 = some r ∧ σ' = ⟨51, [(1, .ptr b1 0), (3, .bool c2)], [(b1, .cells [.str p0x0.Id, .str p0x0.Slot, .str p0x0.Body, I p0x0.Prio, I p0x0.At, I p0x0.Until])]⟩) ?_ ?_
  · refine tR <| rF rfl rfl rfl <| rL rfl rfl .p0 rfl rfl <| bndE h fun v3 e1 h => r_callp rfl (base_Key_c e1) (CoL.refl _) rfl <| ARun.qv (q_not rfl) rfl <| rM rfl rfl <| ARun.guard rfl rfl rfl (fun hc => ?_) (fun hc => ?_)
    · refine have h := iteFb hc h; rF rfl rfl rfl <| rY rfl rfl rfl <| rL rfl rfl .p0 rfl rfl <| rY rfl rfl rfl <| ARun.qv (q_sne rfl rfl) rfl <| rY rfl rfl rfl <| rM rfl rfl <| ARun.guard_dt rfl rfl rfl (fun hc => ?_) (fun hc => ?_)
      · exact have h := iteT hc h; rF rfl rfl rfl <| rY rfl rfl rfl <| rL rfl rfl .p0 rfl rfl <| rY rfl rfl rfl <| bndE h fun v4 e2 h => r_callp rfl (base_Key_c e2) (CoL.refl _) rfl <| rY rfl rfl rfl <| ARun.qv (q_not rfl) rfl <| rY rfl rfl rfl <| rT rfl rfl rfl <| rE rfl rfl rfl <| rA rfl rfl <| rN <| ATodo.stop <| ImpX.lq [0] ⟨!v4, h, rfl⟩ rfl rfl
      · exact have h := iteF hc h; rG rfl rfl rfl rfl <| rG rfl rfl rfl rfl <| rG rfl rfl rfl rfl <| rY rfl rfl rfl <| rE rfl rfl rfl <| rE rfl rfl rfl <| rA rfl rfl <| rN <| ATodo.stop <| ImpX.lq [0] ⟨false, h, rfl⟩ rfl rfl
    · exact have h := iteT hc h; rG rfl rfl rfl rfl <| rG rfl rfl rfl rfl <| rG rfl rfl rfl rfl <| ARun.guard_und rfl rfl rfl <| ARun.guard_und rfl rfl rfl <| ARun.guard_und rfl rfl rfl <| ARun.guard_und rfl rfl rfl <| rG rfl rfl rfl rfl <| rT rfl rfl rfl <| rA rfl rfl <| rN <| ATodo.stop <| ImpX.lq [0] ⟨true, h, rfl⟩ rfl rfl
  · rintro σ' ⟨c2, h, rfl⟩
    unfold command_CheckLetter_j1 at h
    refine ATodo.cond rfl (fun hc => ?_) (fun hc => ?_)
    · refine have h := iteT hc h; tSR <| rA rfl rfl <| rN <| ATodo.ret <| ?_
      obtain rfl := Option.some.inj h
      exact ImpX.here ⟨_, .cons (.tmp _ _ rfl) .nil, rfl⟩
    · refine have h := iteFb hc h; tSR <| rF rfl rfl rfl <| rL rfl rfl .p0 rfl rfl <| ARun.qv (q_len_str rfl) rfl <| ARun.qv (q_gtr rfl rfl) rfl <| rA rfl rfl <| rN <| ATodo.cond_d rfl (fun hc => ?_) (fun hc => ?_)
      · refine have h := iteT hc h; tSR <| rA rfl rfl <| rN <| ATodo.ret <| ?_
        obtain rfl := Option.some.inj h
        exact ImpX.here ⟨_, .cons (.tmp _ _ rfl) .nil, rfl⟩
      · refine have h := iteF hc h; tSR <| rF rfl rfl rfl <| rL rfl rfl .p0 rfl rfl <| bndE h fun v5 e3 h => r_callp rfl (base_Unmarked_c e3) (CoL.refl _) rfl <| ARun.qv (q_not rfl) rfl <| rA rfl rfl <| rN <| ATodo.cond rfl (fun hc => ?_) (fun hc => ?_)
        · refine have h := iteT hc h; tSR <| rA rfl rfl <| rN <| ATodo.ret <| ?_
          obtain rfl := Option.some.inj h
          exact ImpX.here ⟨_, .cons (.tmp _ _ rfl) .nil, rfl⟩
        · refine have h := iteFb hc h; tS <| ATodo.cut (fun σ' => ∃ (c6 : Bool), command_CheckLetter_j2 c6 = some r ∧ σ' = ⟨51, [(29, .bool c6)], []⟩) ?_ ?_
          · refine tR <| rF rfl rfl rfl <| rL rfl rfl .p0 rfl rfl <| r_callp rfl (base_Out_c rfl) (CoL.refl _) rfl <| rM rfl rfl <| ARun.guard rfl rfl rfl (fun hc => ?_) (fun hc => ?_)
            · rw [orFb hc] at h
              refine rF rfl rfl rfl <| rY rfl rfl rfl <| rL rfl rfl .p0 rfl rfl <| rY rfl rfl rfl <| r_callp rfl (base_Moment_c rfl) (CoL.refl _) rfl <| rY rfl rfl rfl <| ARun.qv (q_not rfl) rfl <| rE rfl rfl rfl <| rM rfl rfl <| ARun.guard rfl rfl rfl (fun hc => ?_) (fun hc => ?_)
              · rw [orFb hc] at h
                refine rF rfl rfl rfl <| rY rfl rfl rfl <| rL rfl rfl .p0 rfl rfl <| rY rfl rfl rfl <| rF rfl rfl rfl <| rY rfl rfl rfl <| rL rfl rfl .p0 rfl rfl <| rY rfl rfl rfl <| ARun.qv (q_leq rfl rfl) rfl <| rE rfl rfl rfl <| rM rfl rfl <| ARun.guard_df rfl rfl rfl (fun hc => ?_) (fun hc => ?_)
                · rw [orFd hc] at h
                  exact rF rfl rfl rfl <| rY rfl rfl rfl <| rL rfl rfl .p0 rfl rfl <| rY rfl rfl rfl <| ARun.qv (q_gtr rfl rfl) rfl <| rE rfl rfl rfl <| rA rfl rfl <| rN <| ATodo.stop <| ImpX.lq [] ⟨decide ((345686400000 : Int) < p0x0.Until), h, rfl⟩ rfl rfl
                · rw [orTd hc] at h
                  exact rG rfl rfl rfl rfl <| rG rfl rfl rfl rfl <| rT rfl rfl rfl <| rA rfl rfl <| rN <| ATodo.stop <| ImpX.lq [] ⟨true, h, rfl⟩ rfl rfl
              · rw [orTb hc] at h
                exact rG rfl rfl rfl rfl <| rG rfl rfl rfl rfl <| rG rfl rfl rfl rfl <| rG rfl rfl rfl rfl <| rT rfl rfl rfl <| rM rfl rfl <| rG rfl rfl rfl rfl <| rG rfl rfl rfl rfl <| rG rfl rfl rfl rfl <| rT rfl rfl rfl <| rA rfl rfl <| rN <| ATodo.stop <| ImpX.lq [] ⟨true, h, rfl⟩ rfl rfl
            · rw [orTb hc] at h
              exact rG rfl rfl rfl rfl <| rG rfl rfl rfl rfl <| rG rfl rfl rfl rfl <| rT rfl rfl rfl <| rM rfl rfl <| rG rfl rfl rfl rfl <| rG rfl rfl rfl rfl <| rG rfl rfl rfl rfl <| rG rfl rfl rfl rfl <| rG rfl rfl rfl rfl <| rT rfl rfl rfl <| rM rfl rfl <| rG rfl rfl rfl rfl <| rG rfl rfl rfl rfl <| rG rfl rfl rfl rfl <| rT rfl rfl rfl <| rA rfl rfl <| rN <| ATodo.stop <| ImpX.lq [] ⟨true, h, rfl⟩ rfl rfl
          · rintro σ' ⟨c6, h, rfl⟩
            unfold command_CheckLetter_j2 at h
            refine ATodo.cond rfl (fun hc => ?_) (fun hc => ?_)
            · refine have h := iteT hc h; tSR <| rA rfl rfl <| rN <| ATodo.ret <| ?_
              obtain rfl := Option.some.inj h
              exact ImpX.here ⟨_, .cons (.tmp _ _ rfl) .nil, rfl⟩
            · refine have h := iteFb hc h; tK <| ATodo.blk <| tSR <| rA rfl rfl <| rN <| ATodo.ret <| ?_
              obtain rfl := Option.some.inj h
              exact ImpX.here ⟨_, .cons (.tmp _ _ rfl) .nil, rfl⟩

set_option maxHeartbeats 4000000 in
theorem command_CheckNotes_c {p0x0 : List Note} {r : Int} (h : command_CheckNotes p0x0 = some r) : Pu Tryz.prog 84 [.list 9 (p0x0.map Note.av)] (I r) := by
  unfold command_CheckNotes at h
  refine ACall.bodyN Tryz.func84 rfl Tryz.ntmps84 Tryz.results84 rfl rfl ?_
  refine tSR <| rA rfl rfl <| rN <| tS <| tSR <| rM rfl rfl <| ARun.qv (t_len rfl) rfl <| ARun.qv (q_gtr rfl rfl) rfl <| rN <| ATodo.cond_d rfl (fun hc => ?_) (fun hc => ?_)
  · refine have h := iteT hc h; tSR <| rA rfl rfl <| rN <| ATodo.ret <| ?_
    obtain rfl := Option.some.inj h
    exact ImpX.here ⟨_, .cons (.tmp _ _ rfl) .nil, rfl⟩
  · refine have h := iteF hc h; tK <| tS <| tSR <| rM rfl rfl <| ARun.qv (t_len rfl) rfl <| rM rfl rfl <| rN <| ATodo.block <| ATodo.loopI (fun x : Int => command_CheckNotes_b1 p0x0 x) (fun x σ' => σ' = ⟨53, [(0, .list 9 (p0x0.map Note.av)), (9, .list 9 (p0x0.map Note.av)), (10, I (p0x0.length : Int)), (11, I x)], []⟩) h ?_ ?_
    · exact ImpX.lq [] rfl rfl rfl
    · intro n2 z1 σ' J1 hmk h hJ1 hA1
      obtain rfl := hmk
      replace h : command_CheckNotes_b1 p0x0 n2 = some z1 := h
      unfold command_CheckNotes_b1 at h
      refine tSR <| ARun.qv (q_lss rfl rfl) rfl <| rN <| tS <| ATodo.cond_d rfl (fun hc => ?_) (fun hc => ?_)
      · refine have h := iteT hc h; tK <| tS <| ATodo.block <| tSR <| rM rfl rfl <| bndE h fun v3 e1 h => ARun.qv (t_index rfl rfl rfl e1 rfl rfl) rfl <| ARun.qv (q_load_rptr_agg rfl rfl rfl) rfl <| n_alloc rfl rfl rfl rfl fun b4 => rA rfl rfl <| n_store_ptr rfl rfl rfl rfl .p0 rfl rfl <| rN <| tS <| tSR <| rF rfl rfl rfl <| ARun.qv (n_load_ptr_part rfl rfl .p0 rfl rfl) rfl <| bndE h fun v5 e2 h => r_callp rfl (command_CheckLetter_c e2) (CoL.refl _) rfl <| rA rfl rfl <| rN <| tSR <| rM rfl rfl <| ARun.qv (q_neq rfl rfl) rfl <| rN <| ATodo.cond_d rfl (fun hc => ?_) (fun hc => ?_)
        · refine have h := iteT hc h; tSR <| rM rfl rfl <| rA rfl rfl <| rN <| ATodo.ret <| have h := outL h hA1; ?_
          obtain rfl := Option.some.inj h
          exact ImpX.here ⟨_, .cons (.tmp _ _ rfl) .nil, rfl⟩
        · refine have h := iteF hc h; tK <| ATodo.block <| tSR <| rF rfl rfl rfl <| rL rfl rfl .p0 rfl rfl <| r_callp rfl (base_Out_c rfl) (CoL.refl _) rfl <| rA rfl rfl <| rN <| ATodo.cond rfl (fun hc => ?_) (fun hc => ?_)
          · refine have h := iteT hc h; tSR <| rA rfl rfl <| rN <| ATodo.ret <| have h := outL h hA1; ?_
            obtain rfl := Option.some.inj h
            exact ImpX.here ⟨_, .cons (.tmp _ _ rfl) .nil, rfl⟩
          · refine have h := iteFb hc h; tS <| ATodo.cut (fun σ' => ∃ (c6 : Bool), command_CheckNotes_j1 p0x0 n2 v3 c6 = some z1 ∧ σ' = ⟨53, [(0, .list 9 (p0x0.map Note.av)), (3, I n2), (4, .ptr b4 0), (9, .list 9 (p0x0.map Note.av)), (10, I (p0x0.length : Int)), (11, I n2), (26, .bool c6)], [(b4, .cells [.str v3.Letter.Id, .str v3.Letter.Slot, .str v3.Letter.Body, I v3.Letter.Prio, I v3.Letter.At, I v3.Letter.Until, I v3.State, I v3.Tries, I v3.Since])]⟩) ?_ ?_
            · refine tR <| rF rfl rfl rfl <| rL rfl rfl .p0 rfl rfl <| r_callp rfl (base_Out_c rfl) (CoL.refl _) rfl <| rM rfl rfl <| ARun.guard rfl rfl rfl (fun hc => ?_) (fun hc => ?_)
              · rw [orFb hc] at h
                exact rF rfl rfl rfl <| rY rfl rfl rfl <| rL rfl rfl .p0 rfl rfl <| rY rfl rfl rfl <| r_callp rfl (base_Moment_c rfl) (CoL.refl _) rfl <| rY rfl rfl rfl <| ARun.qv (q_not rfl) rfl <| rE rfl rfl rfl <| rA rfl rfl <| rN <| ATodo.stop <| ImpX.lq [0] ⟨!(base_Moment v3.Since), h, rfl⟩ rfl rfl
              · rw [orTb hc] at h
                exact rG rfl rfl rfl rfl <| rG rfl rfl rfl rfl <| rG rfl rfl rfl rfl <| rT rfl rfl rfl <| rA rfl rfl <| rN <| ATodo.stop <| ImpX.lq [0] ⟨true, h, rfl⟩ rfl rfl
            · rintro σ' ⟨c6, h, rfl⟩
              unfold command_CheckNotes_j1 at h
              refine ATodo.cond rfl (fun hc => ?_) (fun hc => ?_)
              · refine have h := iteT hc h; tSR <| rA rfl rfl <| rN <| ATodo.ret <| have h := outL h hA1; ?_
                obtain rfl := Option.some.inj h
                exact ImpX.here ⟨_, .cons (.tmp _ _ rfl) .nil, rfl⟩
              · refine have h := iteFb hc h; tS <| ATodo.cut (fun σ' => ∃ (c7 : Bool), command_CheckNotes_j2 n2 c7 = some z1 ∧ σ' = ⟨53, [(0, .list 9 (p0x0.map Note.av)), (9, .list 9 (p0x0.map Note.av)), (10, I (p0x0.length : Int)), (11, I n2), (36, .bool c7)], []⟩) ?_ ?_
                · refine ATodo.regionM (id := 13) (A := [0, 1, 3, 7, 15, 31, 7, 7, 135, 455, 967, 1991, 4039, 8191, 16383, 32767]) 16 mixed rfl (by kernel_rfl) (by kernel_rfl) <| AM.qv (q_move rfl) rfl <| AM.qv (q_gtr rfl rfl) rfl <| AM.qv (q_move rfl) rfl <| AM.guard_dt rfl rfl rfl (fun hc => ?_) (fun hc => ?_)
                  · exact have h := iteT hc h; AM.qv (n_field_ptr rfl rfl) rfl <| AM.guard_yes rfl rfl rfl <| AM.qv (n_field_ptr rfl rfl) rfl <| AM.guard_yes rfl rfl rfl <| AM.qv (q_load_ptr rfl rfl .p0 rfl) rfl <| AM.guard_yes rfl rfl rfl <| AM.qv (q_move rfl) rfl <| AM.guard_yes rfl rfl rfl <| AM.qv (q_move rfl) rfl <| AM.guard_yes rfl rfl rfl <| AM.qv (q_subw rfl rfl) rfl <| AM.guard_yes rfl rfl rfl <| bndE h fun v8 e3 h => AM.qv (t_index rfl rfl rfl e3 rfl rfl) rfl <| AM.guard_yes rfl rfl rfl <| AM.qv (n_field_rptr rfl rfl) rfl <| AM.guard_yes rfl rfl rfl <| AM.qv (n_field_rptr rfl rfl) rfl <| AM.guard_yes rfl rfl rfl <| AM.qv (q_load_rptr rfl rfl rfl) rfl <| AM.guard_yes rfl rfl rfl <| AM.qv (t_sleq rfl rfl) rfl <| AM.qv (q_pick_t rfl rfl) rfl <| AM.qv (q_assign rfl) rfl <| AM.nil <| rN <| ATodo.stop <| ImpX.lq [] ⟨Op.bytesLess v3.Letter.Id v8.Letter.Id || v3.Letter.Id == v8.Letter.Id, h, rfl⟩ rfl rfl
                  · exact have h := iteF hc h; AM.guard_no rfl rfl rfl rfl <| AM.guard_no rfl rfl rfl rfl <| AM.guard_no rfl rfl rfl rfl <| AM.guard_no rfl rfl rfl rfl <| AM.guard_no rfl rfl rfl rfl <| AM.guard_no rfl rfl rfl rfl <| AM.guard_no rfl rfl rfl rfl <| AM.guard_no rfl rfl rfl rfl <| AM.guard_no rfl rfl rfl rfl <| AM.guard_no rfl rfl rfl rfl <| AM.qv (q_pick_f rfl rfl) rfl <| AM.qv (q_assign rfl) rfl <| AM.nil <| rN <| ATodo.stop <| ImpX.lq [] ⟨false, h, rfl⟩ rfl rfl
                · rintro σ' ⟨c7, h, rfl⟩
                  unfold command_CheckNotes_j2 at h
                  refine ATodo.cond rfl (fun hc => ?_) (fun hc => ?_)
                  · refine have h := iteT hc h; tSR <| rA rfl rfl <| rN <| ATodo.ret <| have h := outL h hA1; ?_
                    obtain rfl := Option.some.inj h
                    exact ImpX.here ⟨_, .cons (.tmp _ _ rfl) .nil, rfl⟩
                  · refine have h := iteFb hc h; tK <| ATodo.blk <| ATodo.blk <| tR <| ARun.qv (q_addw rfl rfl) rfl <| rM rfl rfl <| rN <| ATodo.stop <| ?_
                    obtain rfl := Option.some.inj h
                    exact hJ1 _ _ rfl <| ImpX.lq [] rfl rfl rfl
      · refine have h := iteF hc h; ATodo.exit rfl <| have h := outL h hA1; tSR <| rA rfl rfl <| rN <| ATodo.ret <| ?_
        obtain rfl := Option.some.inj h
        exact ImpX.here ⟨_, .cons (.tmp _ _ rfl) .nil, rfl⟩

set_option maxHeartbeats 4000000 in
theorem cmp_Or_string_c [GI : GTab] {p0x0 : List Str} {r : Str} (h : cmp_Or_string p0x0 = some r) : Pu Tryz.prog 85 [.list 1 (p0x0.map AV.str)] (.str r) := by
  unfold cmp_Or_string at h
  refine ACall.bodyN Tryz.func85 rfl Tryz.ntmps85 Tryz.results85 rfl rfl ?_
  refine tSR <| rA rfl rfl <| rN <| tSR <| rA rfl rfl <| rN <| tS <| tSR <| rM rfl rfl <| ARun.qv (t_len rfl) rfl <| rM rfl rfl <| rN <| ATodo.block <| ATodo.loopI (fun x : Int => cmp_Or_string_b1 p0x0 x) (fun x σ' => σ' = ⟨18, [(3, .str ([] : Str)), (6, .list 1 (p0x0.map AV.str)), (7, I (p0x0.length : Int)), (8, I x)], []⟩) h ?_ ?_
  · exact ImpX.lq [] rfl rfl rfl
  · intro n2 z1 σ' J1 hmk h hJ1 hA1
    obtain rfl := hmk
    replace h : cmp_Or_string_b1 p0x0 n2 = some z1 := h
    unfold cmp_Or_string_b1 at h
    refine tSR <| ARun.qv (q_lss rfl rfl) rfl <| rN <| tS <| ATodo.cond_d rfl (fun hc => ?_) (fun hc => ?_)
    · refine have h := iteT hc h; tK <| tS <| ATodo.block <| tSR <| bndE h fun v3 e1 h => ARun.qv (t_index rfl rfl rfl e1 rfl rfl) rfl <| ARun.qv (q_load_rptr rfl rfl rfl) rfl <| rA rfl rfl <| rN <| tSR <| rM rfl rfl <| rM rfl rfl <| ARun.qv (q_sne rfl rfl) rfl <| rN <| ATodo.cond_d rfl (fun hc => ?_) (fun hc => ?_)
      · refine have h := iteT hc h; tSR <| rM rfl rfl <| rA rfl rfl <| rN <| ATodo.ret <| have h := outL h hA1; ?_
        obtain rfl := Option.some.inj h
        exact ImpX.here ⟨_, .cons (.tmp _ _ rfl) .nil, rfl⟩
      · refine have h := iteF hc h; tK <| ATodo.blk <| tR <| ARun.qv (q_addw rfl rfl) rfl <| rM rfl rfl <| rN <| ATodo.stop <| ?_
        obtain rfl := Option.some.inj h
        exact hJ1 _ _ rfl <| ImpX.lq [] rfl rfl rfl
    · refine have h := iteF hc h; ATodo.exit rfl <| have h := outL h hA1; tSR <| rM rfl rfl <| rA rfl rfl <| rN <| ATodo.ret <| ?_
      obtain rfl := Option.some.inj h
      exact ImpX.here ⟨_, .cons (.tmp _ _ rfl) .nil, rfl⟩

set_option maxHeartbeats 4000000 in
theorem base_Quote_c {p0x0 : Str} {r : Str} (h : base_Quote p0x0 = some r) : Pu Tryz.prog 86 [.str p0x0] (.str r) := by
  unfold base_Quote at h
  refine ACall.bodyN Tryz.func86 rfl Tryz.ntmps86 Tryz.results86 rfl rfl ?_
  refine tSR <| rA rfl rfl <| rN <| tSR <| rM rfl rfl <| bndE h fun v1 e1 h => r_callp rfl (strings_ReplaceAll_c e1) (CoL.refl _) rfl <| bndE h fun v2 e2 h => r_callp rfl (strings_ReplaceAll_c e2) (CoL.refl _) rfl <| bndE h fun q3 e3 h => ARun.qv (q_sadd e3 rfl rfl) rfl <| bndE h fun q4 e4 h => ARun.qv (q_sadd e4 rfl rfl) rfl <| rA rfl rfl <| rN <| ATodo.ret <| ?_
  obtain rfl := Option.some.inj h
  exact ImpX.here ⟨_, .cons (.tmp _ _ rfl) .nil, rfl⟩

set_option maxHeartbeats 4000000 in
theorem command_Text_c {p0x0 : List Note} {r : Str × Int} (h : command_Text p0x0 = some r) : Pu Tryz.prog 28 [.list 9 (p0x0.map Note.av)] (.tup [.str r.1, I r.2]) := by
  unfold command_Text at h
  refine ACall.bodyN Tryz.func28 rfl Tryz.ntmps28 Tryz.results28 rfl rfl ?_
  refine tSR <| rA rfl rfl <| rA rfl rfl <| rN <| tS <| tSR <| rM rfl rfl <| bndE h fun v1 e1 h => r_callp rfl (command_CheckNotes_c e1) (CoL.refl _) rfl <| rA rfl rfl <| rN <| tSR <| rM rfl rfl <| ARun.qv (q_neq rfl rfl) rfl <| rN <| ATodo.cond_d rfl (fun hc => ?_) (fun hc => ?_)
  · refine have h := iteT hc h; tSR <| rM rfl rfl <| rA rfl rfl <| rA rfl rfl <| rN <| ATodo.ret <| ?_
    obtain rfl := Option.some.inj h
    exact ImpX.here ⟨_, .cons (.tmp _ _ rfl) (.cons (.tmp _ _ rfl) .nil), rfl⟩
  · refine have h := iteF hc h; tK <| tSR <| n_allocB 5 rfl rfl fun b2 => rN <| tS <| tSR <| rM rfl rfl <| ARun.qv (t_len rfl) rfl <| rM rfl rfl <| rN <| ATodo.block <| ATodo.loopI (fun x : Str × Int => command_Text_b1 p0x0 x.1 x.2) (fun x σ' => ∃ (b7 : Bk), σ' = ⟨69, [(5, .ptr b2 0), (15, .list 9 (p0x0.map Note.av)), (16, I (p0x0.length : Int)), (17, I x.2)], [(b2, .bld 93 5 b7.blk x.1)]⟩) h ?_ ?_
    · exact ImpX.lq [0] ⟨(⟨none, 0⟩ : Bk), rfl⟩ rfl rfl
    · intro x z1 σ' J1 hmk h hJ1 hA1
      obtain ⟨q6, n8⟩ := x
      obtain ⟨b7, rfl⟩ := hmk
      replace h : command_Text_b1 p0x0 q6 n8 = some z1 := h
      unfold command_Text_b1 at h
      refine tSR <| ARun.qv (q_lss rfl rfl) rfl <| rN <| tS <| ATodo.cond_d rfl (fun hc => ?_) (fun hc => ?_)
      · refine have h := iteT hc h; tK <| tS <| ATodo.block <| tSR <| bndE h fun v9 e2 h => ARun.qv (t_index rfl rfl rfl e2 rfl rfl) rfl <| ARun.qv (q_load_rptr_agg rfl rfl rfl) rfl <| n_alloc rfl rfl rfl rfl fun b10 => n_store_ptr rfl rfl rfl rfl .p0 rfl rfl <| rN <| tS <| ATodo.regionM (id := 8) (A := [0, 1, 3, 7, 0, 16, 48, 112, 240, 511, 1023]) 10 mixed rfl (by kernel_rfl) (by kernel_rfl) <| AM.qv (n_field_ptr rfl rfl) rfl <| AM.qv (n_field_ptr rfl rfl) rfl <| AM.qv (q_load_ptr rfl rfl .p0 rfl) rfl <| bndE h fun q11 e3 h => AM.qv (q_sadd e3 rfl rfl) rfl <| AM.qv (n_field_ptr rfl rfl) rfl <| AM.qv (n_field_ptr rfl rfl) rfl <| AM.qv (q_load_ptr rfl rfl .p0 rfl) rfl <| AM.buildSliceL (xs := ([v9.Letter.Slot, ([45] : Str)]).map AV.str) rfl rfl rfl rfl rfl rfl <| bndE h fun v12 e4 h => AM.callp rfl (cmp_Or_string_c e4) (CoL.refl _) rfl <| bndE h fun q13 e5 h => AM.qv (q_sadd e5 rfl rfl) rfl <| AM.nil <| bndE h fun q14 e6 h => t_call1 rfl (strings_Builder_WriteString_c e6) (CoL.refl _) (.cons .p1 .nil) (fun _ => rfl) rfl fun b15 => rN <| tS <| tSR <| rF rfl rfl rfl <| rF rfl rfl rfl <| rL rfl rfl .p1 rfl rfl <| rF rfl rfl rfl <| rF rfl rfl rfl <| rL rfl rfl .p1 rfl rfl <| rF rfl rfl rfl <| rF rfl rfl rfl <| rL rfl rfl .p1 rfl rfl <| rF rfl rfl rfl <| rL rfl rfl .p1 rfl rfl <| rF rfl rfl rfl <| rL rfl rfl .p1 rfl rfl <| rF rfl rfl rfl <| rL rfl rfl .p1 rfl rfl <| n_buildSliceL (xs := ([v9.Letter.Prio, v9.Letter.At, v9.Letter.Until, v9.State, v9.Tries, v9.Since] : List Int).map I) rfl rfl rfl rfl rfl rfl <| ARun.qv (t_len rfl) rfl <| rM rfl rfl <| rN <| ATodo.block <| ATodo.loopI (fun x : Str × Int => command_Text_b2 n8 v9 x.1 x.2) (fun x σ' => ∃ (b20 : Bk), σ' = ⟨69, [(5, .ptr b2 0), (7, .ptr b10 0), (15, .list 9 (p0x0.map Note.av)), (16, I (p0x0.length : Int)), (17, I n8), (47, .list 1 ([v9.Letter.Prio, v9.Letter.At, v9.Letter.Until, v9.State, v9.Tries, v9.Since].map I)), (48, I ([v9.Letter.Prio, v9.Letter.At, v9.Letter.Until, v9.State, v9.Tries, v9.Since].length : Int)), (49, I x.2)], [(b2, .bld 93 5 b20.blk x.1), (b10, .cells [.str v9.Letter.Id, .str v9.Letter.Slot, .str v9.Letter.Body, I v9.Letter.Prio, I v9.Letter.At, I v9.Letter.Until, I v9.State, I v9.Tries, I v9.Since])]⟩) h ?_ ?_
        · exact ImpX.lq [0, 0] ⟨b15, rfl⟩ rfl rfl
        · intro x z2 σ' J2 hmk h hJ2 hA2
          obtain ⟨q19, n21⟩ := x
          obtain ⟨b20, rfl⟩ := hmk
          replace h : command_Text_b2 n8 v9 q19 n21 = some z2 := h
          unfold command_Text_b2 at h
          refine tSR <| ARun.qv (q_lss rfl rfl) rfl <| rN <| tS <| ATodo.cond_d rfl (fun hc => ?_) (fun hc => ?_)
          · refine have h := iteT hc h; tK <| tS <| ATodo.block <| tSR <| bndE h fun v22 e7 h => ARun.qv (t_index rfl rfl rfl e7 rfl rfl) rfl <| ARun.qv (q_load_rptr rfl rfl rfl) rfl <| rA rfl rfl <| rN <| tR <| rM rfl rfl <| bndE h fun v23 e8 h => r_callp rfl (strconv_Itoa_c e8) (CoL.refl _) rfl <| bndE h fun q24 e9 h => ARun.qv (q_sadd e9 rfl rfl) rfl <| bndE h fun q25 e10 h => t_call1 rfl (strings_Builder_WriteString_c e10) (CoL.refl _) (.cons .p0 .nil) (fun _ => rfl) rfl fun b26 => rN <| ATodo.blk <| tR <| ARun.qv (q_addw rfl rfl) rfl <| rM rfl rfl <| rN <| ATodo.stop <| ?_
            obtain rfl := Option.some.inj h
            exact hJ2 _ _ rfl <| ImpX.lq [0, 0] ⟨b26, rfl⟩ rfl rfl
          · refine have h := iteF hc h; ATodo.exit rfl <| have h := outL h hA2; ?_
            unfold command_Text_k1 at h
            refine tR <| rF rfl rfl rfl <| rF rfl rfl rfl <| rL rfl rfl .p1 rfl rfl <| bndE h fun v27 e11 h => r_callp rfl (base_Quote_c e11) (CoL.refl _) rfl <| bndE h fun q28 e12 h => ARun.qv (q_sadd e12 rfl rfl) rfl <| bndE h fun q29 e13 h => ARun.qv (q_sadd e13 rfl rfl) rfl <| bndE h fun q30 e14 h => t_call1 rfl (strings_Builder_WriteString_c e14) (CoL.refl _) (.cons .p0 .nil) (fun _ => rfl) rfl fun b31 => rN <| ATodo.blk <| tR <| ARun.qv (q_addw rfl rfl) rfl <| rM rfl rfl <| rN <| ATodo.stop <| ?_
            obtain rfl := Option.some.inj h
            exact hJ1 _ _ rfl <| ImpX.lq [0] ⟨b31, rfl⟩ rfl rfl
      · refine have h := iteF hc h; ATodo.exit rfl <| have h := outL h hA1; ?_
        unfold command_Text_k2 at h
        refine tS <| tSR <| t_call0 rfl strings_Builder_Len_c (CoL.refl _) (.cons .p0 .nil) rfl rfl <| ARun.qv (q_gtr rfl rfl) rfl <| rN <| ATodo.cond_d rfl (fun hc => ?_) (fun hc => ?_)
        · refine have h := iteT hc h; tSR <| rA rfl rfl <| rA rfl rfl <| rN <| ATodo.ret <| ?_
          obtain rfl := Option.some.inj h
          exact ImpX.here ⟨_, .cons (.tmp _ _ rfl) (.cons (.tmp _ _ rfl) .nil), rfl⟩
        · refine have h := iteF hc h; tK <| tSR <| t_call0 rfl strings_Builder_String_c (CoL.refl _) (.cons .p0 .nil) rfl rfl <| rA rfl rfl <| rA rfl rfl <| rN <| ATodo.ret <| ?_
          obtain rfl := Option.some.inj h
          exact ImpX.here ⟨_, .cons (.tmp _ _ rfl) (.cons (.tmp _ _ rfl) .nil), rfl⟩

set_option maxHeartbeats 4000000 in
theorem strings_genSplit_c [GI : GTab] {p0x0 : Str} {p1x0 : Str} {p2x0 : Int} {p3x0 : Int} {r : (List Str)} (h : strings_genSplit p0x0 p1x0 p2x0 p3x0 = some r) : ACall Tryz.prog 131 [.str p0x0, .str p1x0, I p2x0, I p3x0] [] (T1 (fun d_0 => [(d_0, .arr 1 (r.map AV.str))]) (fun d_0 => .sl 1 d_0 0 r.length)) := by
  unfold strings_genSplit at h
  refine ACall.lessH ?_
  refine ACall.bodyN Tryz.func131 rfl Tryz.ntmps131 Tryz.results131 rfl rfl ?_
  refine tSR <| rA rfl rfl <| rN <| tS <| tSR <| rM rfl rfl <| ARun.qv (q_eql rfl rfl) rfl <| rN <| ATodo.cond_d rfl (fun hc => ?_) (fun hc => ?_)
  · refine have h := iteT hc h; tSR <| rA rfl rfl <| rN <| ATodo.ret <| ?_
    obtain rfl := Option.some.inj h
    exact ImpX.arr (s := 8) 1 rfl fun b1 => ImpX.here ⟨_, .cons (.tmp _ _ rfl) .nil, _, .cons .p0 .nil, ⟨b1, rfl, rfl⟩⟩
  · refine have h := iteF hc h; tK <| tS <| tSR <| rM rfl rfl <| ARun.qv (q_seq rfl rfl) rfl <| rN <| ATodo.cond_d rfl (fun hc => ?_) (fun hc => ?_)
    · refine have h := iteT hc h; tSR <| rM rfl rfl <| rM rfl rfl <| bndE h fun v2 e1 h => t_call1 rfl (strings_explode_c e1) (CoL.refl _) .nil (fun _ => rfl) rfl fun b3 => rA rfl rfl <| rN <| ATodo.ret <| ?_
      obtain rfl := Option.some.inj h
      exact ImpX.here ⟨_, .cons (.tmp _ _ rfl) .nil, _, .cons .p0 .nil, ⟨b3, rfl, rfl⟩⟩
    · refine have h := iteF hc h; tK <| tS <| tSR <| rM rfl rfl <| ARun.qv (q_lss rfl rfl) rfl <| rN <| ATodo.cut (fun σ' => ∃ (n4 : Int), strings_genSplit_j1 p0x0 p1x0 p2x0 n4 = some r ∧ σ' = ⟨66, [(0, .str p0x0), (1, .str p1x0), (2, I p2x0), (3, I n4)], []⟩) ?_ ?_
      · refine ATodo.cond_d rfl (fun hc => ?_) (fun hc => ?_)
        · exact have h := iteT hc h; tR <| rM rfl rfl <| rM rfl rfl <| bndE h fun v5 e2 h => r_callp rfl (strings_Count_c e2) (CoL.refl _) rfl <| ARun.qv (q_addw rfl rfl) rfl <| rA rfl rfl <| rN <| ATodo.stop <| ImpX.lq [] ⟨w64 (v5 + (1 : Int)), h, rfl⟩ rfl rfl
        · exact have h := iteF hc h; tK <| ATodo.stop <| ImpX.lq [] ⟨p3x0, h, rfl⟩ rfl rfl
      · rintro σ' ⟨n4, h, rfl⟩
        unfold strings_genSplit_j1 at h
        refine tSR <| rM rfl rfl <| rM rfl rfl <| ARun.qv (q_len_str rfl) rfl <| ARun.qv (q_addw rfl rfl) rfl <| ARun.qv (q_min rfl rfl) rfl <| rA rfl rfl <| rN <| tSR <| rM rfl rfl <| bndE h fun l6 e3 h => t_makeSlice (g := AV.str) (Z := []) rfl rfl rfl rfl rfl rfl rfl rfl rfl e3 fun b7 => rA rfl rfl <| rN <| tSR <| rM rfl rfl <| ARun.qv (q_subw rfl rfl) rfl <| rA rfl rfl <| rN <| tSR <| rA rfl rfl <| rN <| tS <| ATodo.cut (fun σ' => ∃ (q8 : Str) (l9 : List Str) (n10 : Int), strings_genSplit_j2 q8 l9 n10 = some r ∧ σ' = ⟨66, [(0, .str q8), (9, .sl 1 b7 0 l9.length), (10, I n10)], [(b7, .arr 1 (l9.map AV.str))]⟩) ?_ ?_
        · refine ATodo.block <| ATodo.loopI (fun x : Str × (List Str) × Int => strings_genSplit_b1 p0x0 p1x0 p2x0 n4 x.1 x.2.1 x.2.2) (fun x σ' => σ' = ⟨66, [(0, .str x.1), (1, .str p1x0), (2, I p2x0), (3, I (w64 ((min n4 (w64 ((p0x0.length : Int) + (1 : Int)))) - (1 : Int)))), (9, .sl 1 b7 0 x.2.1.length), (10, I x.2.2)], [(b7, .arr 1 (x.2.1.map AV.str))]⟩) h ?_ ?_
          · exact ImpX.lq [0] rfl rfl rfl
          · intro x z1 σ' J1 hmk h hJ1 hA1
            obtain ⟨q14, l15, n16⟩ := x
            obtain rfl := hmk
            replace h : strings_genSplit_b1 p0x0 p1x0 p2x0 n4 q14 l15 n16 = some z1 := h
            unfold strings_genSplit_b1 at h
            refine tS <| tSR <| rM rfl rfl <| rM rfl rfl <| ARun.qv (q_lss rfl rfl) rfl <| rN <| ATodo.cond_d rfl (fun hc => ?_) (fun hc => ?_)
            · refine have h := iteT hc h; tK <| ATodo.block <| tSR <| rM rfl rfl <| rM rfl rfl <| bndE h fun v17 e4 h => r_callp rfl (strings_Index_c e4) (CoL.refl _) rfl <| rA rfl rfl <| rN <| tS <| tSR <| rM rfl rfl <| ARun.qv (q_lss rfl rfl) rfl <| rN <| ATodo.cond_d rfl (fun hc => ?_) (fun hc => ?_)
              · exact have h := iteT hc h; ATodo.exit rfl <| have h := outL h hA1; ATodo.stop <| ImpX.lq [0] ⟨q14, l15, n16, h, rfl⟩ rfl rfl
              · refine have h := iteF hc h; tK <| tSR <| rM rfl rfl <| rM rfl rfl <| rM rfl rfl <| rM rfl rfl <| rM rfl rfl <| ARun.qv (q_addw rfl rfl) rfl <| bndE h fun l18 e5 h => ARun.qv (t_slice_str rfl .none (.some _ _ _ rfl) rfl rfl e5) rfl <| bndE h fun v19 e6 h => ARun.qv (t_index_sl rfl rfl rfl e6) rfl <| t_store_aptr1 (g := AV.str) (el' := l18) rfl rfl rfl rfl e6 rfl .p0 rfl <| ARun.ghost <| ImpX.eqs (s := 9) (av' := .sl 1 b7 0 (l15.set n16.toNat l18).length) rfl (by rw [List.length_set]) <| ImpX.here <| ARun.ghost <| ImpX.eqs (s := 42) (av' := .sl 1 b7 0 (l15.set n16.toNat l18).length) rfl (by rw [List.length_set]) <| ImpX.here <| rN <| tSR <| rM rfl rfl <| rM rfl rfl <| rM rfl rfl <| ARun.qv (q_len_str rfl) rfl <| ARun.qv (q_addw rfl rfl) rfl <| bndE h fun l20 e7 h => ARun.qv (t_slice_str rfl (.some _ _ _ rfl) .none rfl rfl e7) rfl <| rA rfl rfl <| rN <| tR <| rM rfl rfl <| ARun.qv (q_addw rfl rfl) rfl <| rA rfl rfl <| rN <| ATodo.blk <| ATodo.stop <| ?_
                obtain rfl := Option.some.inj h
                exact hJ1 _ _ rfl <| ImpX.lq [0] rfl rfl rfl
            · exact have h := iteF hc h; ATodo.exit rfl <| have h := outL h hA1; ATodo.stop <| ImpX.lq [0] ⟨q14, l15, n16, h, rfl⟩ rfl rfl
        · rintro σ' ⟨q8, l9, n10, h, rfl⟩
          unfold strings_genSplit_j2 at h
          refine tSR <| rM rfl rfl <| rM rfl rfl <| rM rfl rfl <| bndE h fun v21 e8 h => ARun.qv (t_index_sl rfl rfl rfl e8) rfl <| t_store_aptr1 (g := AV.str) (el' := q8) rfl rfl rfl rfl e8 rfl .p0 rfl <| ARun.ghost <| ImpX.eqs (s := 9) (av' := .sl 1 b7 0 (l9.set n10.toNat q8).length) rfl (by rw [List.length_set]) <| ImpX.here <| ARun.ghost <| ImpX.eqs (s := 58) (av' := .sl 1 b7 0 (l9.set n10.toNat q8).length) rfl (by rw [List.length_set]) <| ImpX.here <| rN <| tSR <| rM rfl rfl <| rM rfl rfl <| ARun.qv (q_addw rfl rfl) rfl <| bndE h fun l22 e9 h => ARun.qv (t_slice_sl rfl rfl .none (.some _ _ _ rfl) rfl rfl e9) rfl <| rA rfl rfl <| ARun.ghost <| ImpX.takeT e9 .p0 <| ImpX.here <| rN <| ATodo.ret <| ?_
          obtain rfl := Option.some.inj h
          exact ImpX.here ⟨_, .cons (.tmp _ _ rfl) .nil, _, .cons .p0 .nil, ⟨b7, rfl, rfl⟩⟩

set_option maxHeartbeats 4000000 in
theorem strings_SplitN_c [GI : GTab] {p0x0 : Str} {p1x0 : Str} {p2x0 : Int} {r : (List Str)} (h : strings_SplitN p0x0 p1x0 p2x0 = some r) : ACall Tryz.prog 92 [.str p0x0, .str p1x0, I p2x0] [] (T1 (fun d_0 => [(d_0, .arr 1 (r.map AV.str))]) (fun d_0 => .sl 1 d_0 0 r.length)) := by
  unfold strings_SplitN at h
  refine ACall.lessH ?_
  refine ACall.bodyN Tryz.func92 rfl Tryz.ntmps92 Tryz.results92 rfl rfl ?_
  refine tSR <| rA rfl rfl <| rN <| tSR <| rM rfl rfl <| rM rfl rfl <| rM rfl rfl <| bndE h fun v1 e1 h => t_call1 rfl (strings_genSplit_c e1) (CoL.refl _) .nil (fun _ => rfl) rfl fun b2 => rA rfl rfl <| rN <| ATodo.ret <| ?_
  obtain rfl := Option.some.inj h
  exact ImpX.here ⟨_, .cons (.tmp _ _ rfl) .nil, _, .cons .p0 .nil, ⟨b2, rfl, rfl⟩⟩

set_option maxHeartbeats 4000000 in
theorem base_Number_c {p0x0 : Str} {p1x0 : Int} {r : Int × Bool} (h : base_Number p0x0 p1x0 = some r) : Pu Tryz.prog 129 [.str p0x0, I p1x0] (.tup [I r.1, .bool r.2]) := by
  unfold base_Number at h
  refine ACall.bodyN Tryz.func129 rfl Tryz.ntmps129 Tryz.results129 rfl rfl ?_
  refine tSR <| rA rfl rfl <| rA rfl rfl <| rN <| tSR <| rM rfl rfl <| r_callp rfl (strings_TrimPrefix_c rfl) (CoL.refl _) rfl <| rA rfl rfl <| rN <| tS <| tS <| ATodo.cut (fun σ' => ∃ (c1 : Bool), base_Number_j1 p0x0 c1 = some r ∧ σ' = ⟨61, [(0, .str p0x0), (6, .str (Lib.trimPrefix p0x0 ([45] : Str))), (36, .bool c1)], []⟩) ?_ ?_
  · refine tR <| rM rfl rfl <| ARun.qv (q_seq rfl rfl) rfl <| rM rfl rfl <| ARun.guard_df rfl rfl rfl (fun hc => ?_) (fun hc => ?_)
    · refine have h := iteF hc h; rM rfl rfl <| rY rfl rfl rfl <| ARun.qv (q_len_str rfl) rfl <| rY rfl rfl rfl <| rM rfl rfl <| rY rfl rfl rfl <| ARun.qv (q_gtr rfl rfl) rfl <| rE rfl rfl rfl <| rM rfl rfl <| ARun.guard_df rfl rfl rfl (fun hc => ?_) (fun hc => ?_)
      · refine have h := iteF hc h; rM rfl rfl <| rY rfl rfl rfl <| bndE h fun c2 e1 h => ARun.qv (t_index_str rfl rfl e1) rfl <| rY rfl rfl rfl <| ARun.qv (q_eql rfl rfl) rfl <| rY rfl rfl rfl <| rM rfl rfl <| ARun.guard_dt rfl rfl rfl (fun hc => ?_) (fun hc => ?_)
        · rw [andTd hc] at h
          refine rM rfl rfl <| rY rfl rfl rfl <| ARun.qv (q_len_str rfl) rfl <| rY rfl rfl rfl <| ARun.qv (q_gtr rfl rfl) rfl <| rY rfl rfl rfl <| rM rfl rfl <| ARun.guard_df rfl rfl rfl (fun hc => ?_) (fun hc => ?_)
          · rw [orFd hc] at h
            exact rM rfl rfl <| rY rfl rfl rfl <| ARun.qv (q_len_str rfl) rfl <| rY rfl rfl rfl <| rM rfl rfl <| rY rfl rfl rfl <| ARun.qv (q_len_str rfl) rfl <| rY rfl rfl rfl <| ARun.qv (q_gtr rfl rfl) rfl <| rY rfl rfl rfl <| rE rfl rfl rfl <| rY rfl rfl rfl <| rT rfl rfl rfl <| rE rfl rfl rfl <| rN <| ATodo.stop <| ImpX.lq [] ⟨decide (((Lib.trimPrefix p0x0 ([45] : Str)).length : Int) < (p0x0.length : Int)), h, rfl⟩ rfl rfl
          · rw [orTd hc] at h
            exact rG rfl rfl rfl rfl <| rG rfl rfl rfl rfl <| rG rfl rfl rfl rfl <| rG rfl rfl rfl rfl <| rY rfl rfl rfl <| rT rfl rfl rfl <| rY rfl rfl rfl <| rT rfl rfl rfl <| rE rfl rfl rfl <| rN <| ATodo.stop <| ImpX.lq [] ⟨true, h, rfl⟩ rfl rfl
        · rw [andFd hc] at h
          exact rG rfl rfl rfl rfl <| rG rfl rfl rfl rfl <| rG rfl rfl rfl rfl <| ARun.guard_und rfl rfl rfl <| ARun.guard_und rfl rfl rfl <| ARun.guard_und rfl rfl rfl <| ARun.guard_und rfl rfl rfl <| ARun.guard_und rfl rfl rfl <| rG rfl rfl rfl rfl <| rY rfl rfl rfl <| rE rfl rfl rfl <| rE rfl rfl rfl <| rN <| ATodo.stop <| ImpX.lq [] ⟨false, h, rfl⟩ rfl rfl
      · exact have h := iteT hc h; rG rfl rfl rfl rfl <| rG rfl rfl rfl rfl <| rG rfl rfl rfl rfl <| ARun.guard_und rfl rfl rfl <| ARun.guard_und rfl rfl rfl <| ARun.guard_und rfl rfl rfl <| ARun.guard_und rfl rfl rfl <| ARun.guard_und rfl rfl rfl <| ARun.guard_und rfl rfl rfl <| ARun.guard_und rfl rfl rfl <| ARun.guard_und rfl rfl rfl <| ARun.guard_und rfl rfl rfl <| ARun.guard_und rfl rfl rfl <| rG rfl rfl rfl rfl <| rT rfl rfl rfl <| rN <| ATodo.stop <| ImpX.lq [] ⟨true, h, rfl⟩ rfl rfl
    · exact have h := iteT hc h; rG rfl rfl rfl rfl <| rG rfl rfl rfl rfl <| rG rfl rfl rfl rfl <| rT rfl rfl rfl <| rM rfl rfl <| rG rfl rfl rfl rfl <| rG rfl rfl rfl rfl <| rG rfl rfl rfl rfl <| rG rfl rfl rfl rfl <| ARun.guard_und rfl rfl rfl <| ARun.guard_und rfl rfl rfl <| ARun.guard_und rfl rfl rfl <| ARun.guard_und rfl rfl rfl <| ARun.guard_und rfl rfl rfl <| ARun.guard_und rfl rfl rfl <| ARun.guard_und rfl rfl rfl <| ARun.guard_und rfl rfl rfl <| ARun.guard_und rfl rfl rfl <| ARun.guard_und rfl rfl rfl <| rG rfl rfl rfl rfl <| rT rfl rfl rfl <| rN <| ATodo.stop <| ImpX.lq [] ⟨true, h, rfl⟩ rfl rfl
  · rintro σ' ⟨c1, h, rfl⟩
    unfold base_Number_j1 at h
    refine ATodo.cond rfl (fun hc => ?_) (fun hc => ?_)
    · refine have h := iteT hc h; tSR <| rA rfl rfl <| rA rfl rfl <| rN <| ATodo.ret <| ?_
      obtain rfl := Option.some.inj h
      exact ImpX.here ⟨_, .cons (.tmp _ _ rfl) (.cons (.tmp _ _ rfl) .nil), rfl⟩
    · refine have h := iteFb hc h; tK <| tS <| tSR <| rM rfl rfl <| ARun.qv (q_len_str rfl) rfl <| rM rfl rfl <| rN <| ATodo.block <| ATodo.loopI (fun x : Int => base_Number_b1 p0x0 x) (fun x σ' => σ' = ⟨61, [(0, .str p0x0), (6, .str (Lib.trimPrefix p0x0 ([45] : Str))), (38, I ((Lib.trimPrefix p0x0 ([45] : Str)).length : Int)), (39, I x)], []⟩) h ?_ ?_
      · exact ImpX.lq [] rfl rfl rfl
      · intro n4 z1 σ' J1 hmk h hJ1 hA1
        obtain rfl := hmk
        replace h : base_Number_b1 p0x0 n4 = some z1 := h
        unfold base_Number_b1 at h
        refine tSR <| ARun.qv (q_lss rfl rfl) rfl <| rN <| tS <| ATodo.cond_d rfl (fun hc => ?_) (fun hc => ?_)
        · refine have h := iteT hc h; tK <| tS <| ATodo.block <| tSR <| rM rfl rfl <| rA rfl rfl <| rN <| tS <| ATodo.cut (fun σ' => ∃ (c5 : Bool), base_Number_j2 n4 c5 = some z1 ∧ σ' = ⟨61, [(0, .str p0x0), (6, .str (Lib.trimPrefix p0x0 ([45] : Str))), (38, I ((Lib.trimPrefix p0x0 ([45] : Str)).length : Int)), (39, I n4), (51, .bool c5)], []⟩) ?_ ?_
          · refine tR <| rM rfl rfl <| rM rfl rfl <| bndE h fun c6 e2 h => ARun.qv (t_index_str rfl rfl e2) rfl <| ARun.qv (q_lss rfl rfl) rfl <| rM rfl rfl <| ARun.guard_df rfl rfl rfl (fun hc => ?_) (fun hc => ?_)
            · exact have h := iteF hc h; rM rfl rfl <| rY rfl rfl rfl <| rM rfl rfl <| rY rfl rfl rfl <| bndE h fun c7 e3 h => ARun.qv (t_index_str rfl rfl e3) rfl <| rY rfl rfl rfl <| ARun.qv (q_gtr rfl rfl) rfl <| rE rfl rfl rfl <| rN <| ATodo.stop <| ImpX.lq [] ⟨decide ((57 : Int) < (c7.toNat : Int)), h, rfl⟩ rfl rfl
            · exact have h := iteT hc h; rG rfl rfl rfl rfl <| rG rfl rfl rfl rfl <| rG rfl rfl rfl rfl <| rT rfl rfl rfl <| rN <| ATodo.stop <| ImpX.lq [] ⟨true, h, rfl⟩ rfl rfl
          · rintro σ' ⟨c5, h, rfl⟩
            unfold base_Number_j2 at h
            refine ATodo.cond rfl (fun hc => ?_) (fun hc => ?_)
            · refine have h := iteT hc h; tSR <| rA rfl rfl <| rA rfl rfl <| rN <| ATodo.ret <| have h := outL h hA1; ?_
              obtain rfl := Option.some.inj h
              exact ImpX.here ⟨_, .cons (.tmp _ _ rfl) (.cons (.tmp _ _ rfl) .nil), rfl⟩
            · refine have h := iteFb hc h; tK <| ATodo.blk <| tR <| ARun.qv (q_addw rfl rfl) rfl <| rM rfl rfl <| rN <| ATodo.stop <| ?_
              obtain rfl := Option.some.inj h
              exact hJ1 _ _ rfl <| ImpX.lq [] rfl rfl rfl
        · refine have h := iteF hc h; ATodo.exit rfl <| have h := outL h hA1; ?_
          unfold base_Number_k3 at h
          refine tSR <| rM rfl rfl <| bndE h fun v8 e4 h => t_callE rfl (strconv_Atoi_c e4) (CoL.refl _) rfl fun e9 e5 => rM rfl rfl <| rX rfl rfl rfl <| rX rfl rfl rfl <| rA rfl rfl <| rA rfl rfl <| rN <| tS <| ATodo.regionM (id := 11) (A := [0, 0, 2, 1, 15]) 5 mixed rfl (by kernel_rfl) (by kernel_rfl) <| AM.qv (q_move rfl) rfl <| AM.qv (q_move rfl) rfl <| AM.qv (q_eqE e5 rfl) rfl <| AM.qv (q_assign rfl) rfl <| AM.qv (q_assign rfl) rfl <| AM.nil <| rN <| ATodo.ret <| ?_
          obtain rfl := Option.some.inj h
          exact ImpX.here ⟨_, .cons (.tmp _ _ rfl) (.cons (.tmp _ _ rfl) .nil), rfl⟩

set_option maxHeartbeats 4000000 in
theorem base_Numbers_c {p0x0 : List Str} {p1x0 : Int} {r : (List Int) × Bool} (h : base_Numbers p0x0 p1x0 = some r) : ACall Tryz.prog 68 [.list 1 (p0x0.map AV.str), I p1x0] [] (T1 (fun d_0 => [(d_0, .arr 1 (r.1.map I))]) (fun d_0 => .tup [.sl 1 d_0 0 r.1.length, .bool r.2])) := by
  unfold base_Numbers at h
  refine ACall.lessH ?_
  refine ACall.bodyN Tryz.func68 rfl Tryz.ntmps68 Tryz.results68 rfl rfl ?_
  refine tSR <| rA rfl rfl <| rA rfl rfl <| rN <| tSR <| rA rfl rfl <| rN <| tS <| tSR <| rM rfl rfl <| ARun.qv (t_len rfl) rfl <| rM rfl rfl <| rN <| ATodo.block <| ATodo.loopI (fun x : (List Int) × Int => base_Numbers_b1 p0x0 p1x0 x.1 x.2) (fun x σ' => ∃ (b4 : Bk), σ' = ⟨31, [(1, I p1x0), (6, .sl 1 b4 0 x.1.length), (11, .list 1 (p0x0.map AV.str)), (12, I (p0x0.length : Int)), (13, I x.2)], [(b4, .arr 1 (x.1.map I))]⟩) h ?_ ?_
  · exact ImpX.arr (s := 6) 1 rfl fun b7 => ImpX.lq [0] ⟨b7, rfl⟩ rfl rfl
  · intro x z1 σ' J1 hmk h hJ1 hA1
    obtain ⟨l5, n6⟩ := x
    obtain ⟨b4, rfl⟩ := hmk
    replace h : base_Numbers_b1 p0x0 p1x0 l5 n6 = some z1 := h
    unfold base_Numbers_b1 at h
    refine tSR <| ARun.qv (q_lss rfl rfl) rfl <| rN <| tS <| ATodo.cond_d rfl (fun hc => ?_) (fun hc => ?_)
    · refine have h := iteT hc h; tK <| tS <| ATodo.block <| tSR <| bndE h fun v8 e1 h => ARun.qv (t_index rfl rfl rfl e1 rfl rfl) rfl <| ARun.qv (q_load_rptr rfl rfl rfl) rfl <| rA rfl rfl <| rN <| tSR <| rM rfl rfl <| rM rfl rfl <| bndE h fun v9 e2 h => r_callp rfl (base_Number_c e2) (CoL.refl _) rfl <| rM rfl rfl <| rX rfl rfl rfl <| rX rfl rfl rfl <| rA rfl rfl <| rA rfl rfl <| rN <| tS <| tSR <| rM rfl rfl <| ARun.qv (q_not rfl) rfl <| rN <| ATodo.cond rfl (fun hc => ?_) (fun hc => ?_)
      · refine have h := iteT hc h; tSR <| rA rfl rfl <| rA rfl rfl <| rN <| ATodo.ret <| have h := outL h hA1; ?_
        obtain rfl := Option.some.inj h
        exact ImpX.arr (s := 4) 1 rfl fun b10 => ImpX.here ⟨_, .cons (.tmp _ _ rfl) (.cons (.tmp _ _ rfl) .nil), _, .cons .p0 .nil, ⟨b10, rfl, rfl⟩⟩
      · refine have h := iteFb hc h; tK <| tR <| rM rfl rfl <| rM rfl rfl <| n_buildSliceL (xs := ([v9.1] : List Int).map I) rfl rfl rfl rfl rfl rfl <| bndE h fun l11 e3 h => t_append (g := I) rfl rfl rfl rfl rfl rfl rfl rfl (.list _) e3 (fun _ => .p0) rfl fun b12 => rA rfl rfl <| rN <| ATodo.blk <| tR <| ARun.qv (q_addw rfl rfl) rfl <| rM rfl rfl <| rN <| ATodo.stop <| ?_
        obtain rfl := Option.some.inj h
        exact hJ1 _ _ rfl <| ImpX.lq [0] ⟨b12, rfl⟩ rfl rfl
    · refine have h := iteF hc h; ATodo.exit rfl <| have h := outL h hA1; tSR <| rM rfl rfl <| rA rfl rfl <| rA rfl rfl <| rN <| ATodo.ret <| ?_
      obtain rfl := Option.some.inj h
      exact ImpX.here ⟨_, .cons (.tmp _ _ rfl) (.cons (.tmp _ _ rfl) .nil), _, .cons .p0 .nil, ⟨b4, rfl, rfl⟩⟩

set_option maxHeartbeats 4000000 in
theorem base_Unquote_c [GI : GTab] {p0x0 : Str} {r : Str × Bool} (h : base_Unquote p0x0 = some r) : Pu Tryz.prog 143 [.str p0x0] (.tup [.str r.1, .bool r.2]) := by
  unfold base_Unquote at h
  refine ACall.bodyN Tryz.func143 rfl Tryz.ntmps143 Tryz.results143 rfl rfl ?_
  refine tSR <| rA rfl rfl <| rA rfl rfl <| rN <| tS <| tS <| ATodo.cut (fun σ' => ∃ (c1 : Bool), base_Unquote_j1 p0x0 c1 = some r ∧ σ' = ⟨69, [(0, .str p0x0), (22, .bool c1)], []⟩) ?_ ?_
  · refine tR <| rM rfl rfl <| ARun.qv (q_len_str rfl) rfl <| ARun.qv (q_lss rfl rfl) rfl <| rM rfl rfl <| ARun.guard_df rfl rfl rfl (fun hc => ?_) (fun hc => ?_)
    · refine have h := iteF hc h; rM rfl rfl <| rY rfl rfl rfl <| bndE h fun c2 e1 h => ARun.qv (t_index_str rfl rfl e1) rfl <| rY rfl rfl rfl <| ARun.qv (q_neq rfl rfl) rfl <| rE rfl rfl rfl <| rM rfl rfl <| ARun.guard_df rfl rfl rfl (fun hc => ?_) (fun hc => ?_)
      · exact have h := iteF hc h; rM rfl rfl <| rY rfl rfl rfl <| rM rfl rfl <| rY rfl rfl rfl <| ARun.qv (q_len_str rfl) rfl <| rY rfl rfl rfl <| ARun.qv (q_subw rfl rfl) rfl <| rY rfl rfl rfl <| bndE h fun c3 e2 h => ARun.qv (t_index_str rfl rfl e2) rfl <| rY rfl rfl rfl <| ARun.qv (q_neq rfl rfl) rfl <| rE rfl rfl rfl <| rN <| ATodo.stop <| ImpX.lq [] ⟨decide ((c3.toNat : Int) ≠ (34 : Int)), h, rfl⟩ rfl rfl
      · exact have h := iteT hc h; rG rfl rfl rfl rfl <| rG rfl rfl rfl rfl <| rG rfl rfl rfl rfl <| rG rfl rfl rfl rfl <| rG rfl rfl rfl rfl <| rT rfl rfl rfl <| rN <| ATodo.stop <| ImpX.lq [] ⟨true, h, rfl⟩ rfl rfl
    · exact have h := iteT hc h; rG rfl rfl rfl rfl <| rG rfl rfl rfl rfl <| rT rfl rfl rfl <| rM rfl rfl <| rG rfl rfl rfl rfl <| rG rfl rfl rfl rfl <| rG rfl rfl rfl rfl <| rG rfl rfl rfl rfl <| rG rfl rfl rfl rfl <| rG rfl rfl rfl rfl <| rT rfl rfl rfl <| rN <| ATodo.stop <| ImpX.lq [] ⟨true, h, rfl⟩ rfl rfl
  · rintro σ' ⟨c1, h, rfl⟩
    unfold base_Unquote_j1 at h
    refine ATodo.cond rfl (fun hc => ?_) (fun hc => ?_)
    · refine have h := iteT hc h; tSR <| rA rfl rfl <| rA rfl rfl <| rN <| ATodo.ret <| ?_
      obtain rfl := Option.some.inj h
      exact ImpX.here ⟨_, .cons (.tmp _ _ rfl) (.cons (.tmp _ _ rfl) .nil), rfl⟩
    · refine have h := iteFb hc h; tK <| tSR <| rM rfl rfl <| rM rfl rfl <| ARun.qv (q_len_str rfl) rfl <| ARun.qv (q_subw rfl rfl) rfl <| bndE h fun l4 e3 h => ARun.qv (t_slice_str rfl (.some _ _ _ rfl) (.some _ _ _ rfl) rfl rfl e3) rfl <| rA rfl rfl <| rN <| tSR <| rA rfl rfl <| rN <| tS <| tSR <| rA rfl rfl <| rN <| ATodo.block <| ATodo.loopI (fun x : (List Int) × Int => base_Unquote_b1 l4 x.1 x.2) (fun x σ' => ∃ (b8 : Bk), σ' = ⟨69, [(0, .str l4), (4, .sl 1 b8 0 x.1.length), (5, I x.2)], [(b8, .arr 1 (x.1.map (AV.int .u8)))]⟩) h ?_ ?_
      · exact ImpX.arr (s := 4) 1 rfl fun b11 => ImpX.lq [0] ⟨b11, rfl⟩ rfl rfl
      · intro x z1 σ' J1 hmk h hJ1 hA1
        obtain ⟨l9, n10⟩ := x
        obtain ⟨b8, rfl⟩ := hmk
        replace h : base_Unquote_b1 l4 l9 n10 = some z1 := h
        unfold base_Unquote_b1 at h
        refine tS <| tSR <| rM rfl rfl <| rM rfl rfl <| ARun.qv (q_len_str rfl) rfl <| ARun.qv (q_lss rfl rfl) rfl <| rN <| ATodo.cond_d rfl (fun hc => ?_) (fun hc => ?_)
        · refine have h := iteT hc h; tK <| tS <| ATodo.block <| tS <| tSR <| rM rfl rfl <| rM rfl rfl <| bndE h fun c12 e4 h => ARun.qv (t_index_str rfl rfl e4) rfl <| rA rfl rfl <| rN <| ATodo.block <| tSR <| rM rfl rfl <| ARun.qv (q_eql rfl rfl) rfl <| rA rfl rfl <| rN <| ATodo.cond_d rfl (fun hc => ?_) (fun hc => ?_)
          · refine have h := iteT hc h; tSR <| rA rfl rfl <| rA rfl rfl <| rN <| ATodo.ret <| have h := outL h hA1; ?_
            obtain rfl := Option.some.inj h
            exact ImpX.here ⟨_, .cons (.tmp _ _ rfl) (.cons (.tmp _ _ rfl) .nil), rfl⟩
          · refine have h := iteF hc h; tSR <| rM rfl rfl <| ARun.qv (q_eql rfl rfl) rfl <| rA rfl rfl <| rN <| ATodo.cut (fun σ' => ∃ (n13 : Int), base_Unquote_j2 l4 l9 n13 = some z1 ∧ σ' = ⟨69, [(0, .str l4), (4, .sl 1 b8 0 l9.length), (5, I n13)], [(b8, .arr 1 (l9.map (AV.int .u8)))]⟩) ?_ ?_
            · refine ATodo.cond_d rfl (fun hc => ?_) (fun hc => ?_)
              · refine have h := iteT hc h; tSR <| rM rfl rfl <| ARun.qv (q_addw rfl rfl) rfl <| rA rfl rfl <| rN <| tS <| ATodo.cut (fun σ' => ∃ (c14 : Bool), base_Unquote_j3 l4 l9 n10 c14 = some z1 ∧ σ' = ⟨69, [(0, .str l4), (4, .sl 1 b8 0 l9.length), (5, I (w64 (n10 + (1 : Int)))), (60, .bool c14)], [(b8, .arr 1 (l9.map (AV.int .u8)))]⟩) ?_ ?_
                · refine tR <| rM rfl rfl <| rM rfl rfl <| ARun.qv (q_len_str rfl) rfl <| ARun.qv (q_eql rfl rfl) rfl <| rM rfl rfl <| ARun.guard_df rfl rfl rfl (fun hc => ?_) (fun hc => ?_)
                  · refine have h := iteF hc h; rM rfl rfl <| rY rfl rfl rfl <| rM rfl rfl <| rY rfl rfl rfl <| bndE h fun c15 e5 h => ARun.qv (t_index_str rfl rfl e5) rfl <| rY rfl rfl rfl <| ARun.qv (q_neq rfl rfl) rfl <| rY rfl rfl rfl <| rM rfl rfl <| ARun.guard_dt rfl rfl rfl (fun hc => ?_) (fun hc => ?_)
                    · exact have h := iteT hc h; rM rfl rfl <| rY rfl rfl rfl <| rM rfl rfl <| rY rfl rfl rfl <| bndE h fun c16 e6 h => ARun.qv (t_index_str rfl rfl e6) rfl <| rY rfl rfl rfl <| ARun.qv (q_neq rfl rfl) rfl <| rY rfl rfl rfl <| rT rfl rfl rfl <| rE rfl rfl rfl <| rN <| ATodo.stop <| ImpX.lq [0] ⟨decide ((c16.toNat : Int) ≠ (92 : Int)), h, rfl⟩ rfl rfl
                    · exact have h := iteF hc h; rG rfl rfl rfl rfl <| rG rfl rfl rfl rfl <| rG rfl rfl rfl rfl <| rY rfl rfl rfl <| rE rfl rfl rfl <| rE rfl rfl rfl <| rN <| ATodo.stop <| ImpX.lq [0] ⟨false, h, rfl⟩ rfl rfl
                  · exact have h := iteT hc h; rG rfl rfl rfl rfl <| rG rfl rfl rfl rfl <| rG rfl rfl rfl rfl <| rG rfl rfl rfl rfl <| ARun.guard_und rfl rfl rfl <| ARun.guard_und rfl rfl rfl <| ARun.guard_und rfl rfl rfl <| ARun.guard_und rfl rfl rfl <| rG rfl rfl rfl rfl <| rT rfl rfl rfl <| rN <| ATodo.stop <| ImpX.lq [0] ⟨true, h, rfl⟩ rfl rfl
                · rintro σ' ⟨c14, h, rfl⟩
                  unfold base_Unquote_j3 at h
                  refine ATodo.cond rfl (fun hc => ?_) (fun hc => ?_)
                  · refine have h := iteT hc h; tSR <| rA rfl rfl <| rA rfl rfl <| rN <| ATodo.ret <| have h := outL h hA1; ?_
                    obtain rfl := Option.some.inj h
                    exact ImpX.here ⟨_, .cons (.tmp _ _ rfl) (.cons (.tmp _ _ rfl) .nil), rfl⟩
                  · exact have h := iteFb hc h; tK <| ATodo.stop <| ImpX.lq [0] ⟨w64 (n10 + (1 : Int)), h, rfl⟩ rfl rfl
              · exact have h := iteF hc h; tK <| ATodo.stop <| ImpX.lq [0] ⟨n10, h, rfl⟩ rfl rfl
            · rintro σ' ⟨n13, h, rfl⟩
              unfold base_Unquote_j2 at h
              refine ATodo.blk <| tR <| rM rfl rfl <| rM rfl rfl <| rM rfl rfl <| bndE h fun c17 e7 h => ARun.qv (t_index_str rfl rfl e7) rfl <| n_buildSliceL (xs := ([(c17.toNat : Int)]).map (AV.int .u8)) rfl rfl rfl rfl rfl rfl <| bndE h fun l18 e8 h => t_append (g := (AV.int .u8)) rfl rfl rfl rfl rfl rfl rfl rfl (.list _) e8 (fun _ => .p0) rfl fun b19 => rA rfl rfl <| rN <| ATodo.blk <| tR <| rM rfl rfl <| ARun.qv (q_addw rfl rfl) rfl <| rA rfl rfl <| rN <| ATodo.stop <| ?_
              obtain rfl := Option.some.inj h
              exact hJ1 _ _ rfl <| ImpX.lq [0] ⟨b19, rfl⟩ rfl rfl
        · refine have h := iteF hc h; ATodo.exit rfl <| have h := outL h hA1; tSR <| rM rfl rfl <| ARun.qv (q_conv_bs rfl (CoB.arrT .p0)) rfl <| rA rfl rfl <| rA rfl rfl <| rN <| ATodo.ret <| ?_
          obtain rfl := Option.some.inj h
          exact ImpX.here ⟨_, .cons (.tmp _ _ rfl) (.cons (.tmp _ _ rfl) .nil), rfl⟩

set_option maxHeartbeats 4000000 in
theorem command_readNote_c {p0x0 : Str} {r : Note × Bool} (h : command_readNote p0x0 = some r) : Pu Tryz.prog 90 [.str p0x0] (.tup [.agg [.str r.1.Letter.Id, .str r.1.Letter.Slot, .str r.1.Letter.Body, I r.1.Letter.Prio, I r.1.Letter.At, I r.1.Letter.Until, I r.1.State, I r.1.Tries, I r.1.Since], .bool r.2]) := by
  unfold command_readNote at h
  refine ACall.bodyN Tryz.func90 rfl Tryz.ntmps90 Tryz.results90 rfl rfl ?_
  refine tSR <| n_alloc rfl rfl rfl rfl fun b1 => rA rfl rfl <| rN <| tSR <| rM rfl rfl <| bndE h fun v2 e1 h => t_call1 rfl (strings_SplitN_c e1) (CoL.refl _) .nil (fun _ => rfl) rfl fun b3 => rA rfl rfl <| rN <| tS <| tS <| ATodo.cut (fun σ' => ∃ (c4 : Bool), command_readNote_j1 v2 c4 = some r ∧ σ' = ⟨80, [(2, .ptr b1 0), (4, .sl 1 b3 0 v2.length), (26, .bool c4)], [(b1, .cells [.str [], .str [], .str [], I (0 : Int), I (0 : Int), I (0 : Int), I (0 : Int), I (0 : Int), I (0 : Int)]), (b3, .arr 1 (v2.map AV.str))]⟩) ?_ ?_
  · refine tR <| rM rfl rfl <| ARun.qv (t_len_sl rfl) rfl <| ARun.qv (q_neq rfl rfl) rfl <| rM rfl rfl <| ARun.guard_df rfl rfl rfl (fun hc => ?_) (fun hc => ?_)
    · refine have h := iteF hc h; rM rfl rfl <| rY rfl rfl rfl <| bndE h fun v5 e2 h => ARun.qv (t_index_sl rfl rfl rfl e2) rfl <| rY rfl rfl rfl <| ARun.qv (t_load_aptr (g := AV.str) rfl rfl (.inl .p0) e2 rfl) rfl <| rY rfl rfl rfl <| ARun.qv (q_seq rfl rfl) rfl <| rE rfl rfl rfl <| rM rfl rfl <| ARun.guard_df rfl rfl rfl (fun hc => ?_) (fun hc => ?_)
      · exact have h := iteF hc h; rM rfl rfl <| rY rfl rfl rfl <| bndE h fun v6 e3 h => ARun.qv (t_index_sl rfl rfl rfl e3) rfl <| rY rfl rfl rfl <| ARun.qv (t_load_aptr (g := AV.str) rfl rfl (.inl .p0) e3 rfl) rfl <| rY rfl rfl rfl <| ARun.qv (q_seq rfl rfl) rfl <| rE rfl rfl rfl <| rN <| ATodo.stop <| ImpX.lq [1, 0] ⟨decide (v6 = ([] : Str)), h, rfl⟩ rfl rfl
      · exact have h := iteT hc h; rG rfl rfl rfl rfl <| rG rfl rfl rfl rfl <| rG rfl rfl rfl rfl <| rT rfl rfl rfl <| rN <| ATodo.stop <| ImpX.lq [1, 0] ⟨true, h, rfl⟩ rfl rfl
    · exact have h := iteT hc h; rG rfl rfl rfl rfl <| rG rfl rfl rfl rfl <| rG rfl rfl rfl rfl <| rT rfl rfl rfl <| rM rfl rfl <| rG rfl rfl rfl rfl <| rG rfl rfl rfl rfl <| rG rfl rfl rfl rfl <| rG rfl rfl rfl rfl <| rT rfl rfl rfl <| rN <| ATodo.stop <| ImpX.lq [1, 0] ⟨true, h, rfl⟩ rfl rfl
  · rintro σ' ⟨c4, h, rfl⟩
    unfold command_readNote_j1 at h
    refine ATodo.cond rfl (fun hc => ?_) (fun hc => ?_)
    · refine have h := iteT hc h; tSR <| ARun.qv (n_build rfl rfl rfl rfl rfl) rfl <| n_store_ptr rfl rfl rfl rfl .p0 rfl rfl <| rA rfl rfl <| rN <| ATodo.ret <| ?_
      obtain rfl := Option.some.inj h
      exact ImpX.here ⟨_, .cons (.all _ _ _ _ _ _ rfl .p0 TUnder.h TInfo.h rfl rfl) (.cons (.tmp _ _ rfl) .nil), rfl⟩
    · refine have h := iteFb hc h; tK <| tSR <| rM rfl rfl <| bndE h fun l7 e4 h => ARun.qv (t_slice_sl rfl rfl (.some _ _ _ rfl) (.some _ _ _ rfl) rfl rfl e4) rfl <| bndE h fun v8 e5 h => t_callL1 rfl (base_Numbers_c e5) .nil (.cons (CoB.partT e4 .p1) (.cons (.co (.refl _)) .nil)) (fun _ => rfl) (fun _ => rfl) (fun _ => (.cons (NoS.arrT (fun _ => rfl)) .nil)) rfl fun b9 => rM rfl rfl <| rX rfl rfl rfl <| rX rfl rfl rfl <| rA rfl rfl <| rA rfl rfl <| rN <| tSR <| rM rfl rfl <| bndE h fun v10 e6 h => ARun.qv (t_index_sl rfl rfl rfl e6) rfl <| ARun.qv (t_load_aptr (g := AV.str) rfl rfl (.inl .p2) e6 rfl) rfl <| bndE h fun v11 e7 h => r_callp rfl (base_Unquote_c e7) (CoL.refl _) rfl <| rM rfl rfl <| rX rfl rfl rfl <| rX rfl rfl rfl <| rA rfl rfl <| rA rfl rfl <| rN <| tS <| tS <| ATodo.cut (fun σ' => ∃ (c12 : Bool), command_readNote_j2 v2 v8 v11 c12 = some r ∧ σ' = ⟨80, [(2, .ptr b1 0), (4, .sl 1 b3 0 v2.length), (5, .sl 1 b9 0 v8.1.length), (7, .str v11.1), (46, .bool c12)], [(b1, .cells [.str [], .str [], .str [], I (0 : Int), I (0 : Int), I (0 : Int), I (0 : Int), I (0 : Int), I (0 : Int)]), (b3, .arr 1 (v2.map AV.str)), (b9, .arr 1 (v8.1.map I))]⟩) ?_ ?_
      · refine tR <| rM rfl rfl <| ARun.qv (q_not rfl) rfl <| rM rfl rfl <| ARun.guard rfl rfl rfl (fun hc => ?_) (fun hc => ?_)
        · rw [orFb hc] at h
          exact rM rfl rfl <| rY rfl rfl rfl <| ARun.qv (q_not rfl) rfl <| rE rfl rfl rfl <| rN <| ATodo.stop <| ImpX.lq [1, 1, 0] ⟨!v11.2, h, rfl⟩ rfl rfl
        · rw [orTb hc] at h
          exact rG rfl rfl rfl rfl <| rT rfl rfl rfl <| rN <| ATodo.stop <| ImpX.lq [1, 1, 0] ⟨true, h, rfl⟩ rfl rfl
      · rintro σ' ⟨c12, h, rfl⟩
        unfold command_readNote_j2 at h
        refine ATodo.cond rfl (fun hc => ?_) (fun hc => ?_)
        · refine have h := iteT hc h; tSR <| ARun.qv (n_build rfl rfl rfl rfl rfl) rfl <| n_store_ptr rfl rfl rfl rfl .p0 rfl rfl <| rA rfl rfl <| rN <| ATodo.ret <| ?_
          obtain rfl := Option.some.inj h
          exact ImpX.here ⟨_, .cons (.all _ _ _ _ _ _ rfl .p0 TUnder.h TInfo.h rfl rfl) (.cons (.tmp _ _ rfl) .nil), rfl⟩
        · refine have h := iteFb hc h; tK <| tS <| bndE h fun v13 e8 h => bndE h fun v14 e9 h => bndE h fun v15 e10 h => bndE h fun v16 e11 h => bndE h fun v17 e12 h => ATodo.regionT (id := 8) (A := [0, 1, 3, 0, 8, 24, 0, 0, 128, 384, 0, 1024, 3072, 0, 8192, 24576, 65535, 0, 262143]) (H0 := []) (HH := fun β => [((β 17), .cells [.str [], .str [], .str [], I (0 : Int), I (0 : Int), I (0 : Int)]), (b1, .cells [.str [], .str [], .str [], I (0 : Int), I (0 : Int), I (0 : Int), I (0 : Int), I (0 : Int), I (0 : Int)]), (b3, .arr 1 (v2.map AV.str)), (b9, .arr 1 (v8.1.map I))]) 18 mixed rfl (by kernel_rfl) (by kernel_rfl) [⟨some 17, none, [], fun b => (b, .cells [.str [], .str [], .str [], I (0 : Int), I (0 : Int), I (0 : Int)]), none⟩] [17] rfl (by kernel_rfl) rfl .nil (fun _ => rfl) <| AT.am 17 rfl rfl <| AM.qv (q_move rfl) rfl <| AM.qv (t_index_sl rfl rfl rfl e8) rfl <| AM.qv (t_load_aptr (g := AV.str) rfl rfl (.inl .p1) e8 rfl) rfl <| AM.qv (q_move rfl) rfl <| AM.qv (t_index_sl rfl rfl rfl e9) rfl <| AM.qv (t_load_aptr (g := AV.str) rfl rfl (.inl .p1) e9 rfl) rfl <| AM.qv (q_move rfl) rfl <| AM.qv (q_move rfl) rfl <| AM.qv (t_index_sl rfl rfl rfl e10) rfl <| AM.qv (t_load_aptr (g := I) rfl rfl (.inl .p2) e10 rfl) rfl <| AM.qv (q_move rfl) rfl <| AM.qv (t_index_sl rfl rfl rfl e11) rfl <| AM.qv (t_load_aptr (g := I) rfl rfl (.inl .p2) e11 rfl) rfl <| AM.qv (q_move rfl) rfl <| AM.qv (t_index_sl rfl rfl rfl e12) rfl <| AM.qv (t_load_aptr (g := I) rfl rfl (.inl .p2) e12 rfl) rfl <| AM.qv (n_build rfl rfl rfl rfl rfl) rfl <| AM.nil <| AT.runD (V := fun b => .ptr b 0) (Ti := []) (Pi := fun b => [(b, .cells [.str [], .str [], .str [], I (0 : Int), I (0 : Int), I (0 : Int)])]) (fun _ => rfl) (fun _ => rfl) (fun _ _ => rfl) rfl (fun _ => rfl) rfl rfl rfl ?_ ?_
          · exact n_alloc rfl rfl rfl rfl fun b18 => ARun.nil ⟨b18, _, rfl, rfl⟩
          refine AT.nilN (fun _ => rfl) fun β => ?_
          generalize β 17 = b18
          clear β
          refine n_store_ptr rfl rfl rfl rfl .p0 rfl rfl <| rN <| tS <| tSR <| rF rfl rfl rfl <| rL rfl rfl .p0 rfl rfl <| ARun.qv (q_seq rfl rfl) rfl <| rN <| ATodo.cut (fun σ' => ∃ (q19 : Str), command_readNote_j3 v8 v11 v13 v15 v16 v17 q19 = some r ∧ σ' = ⟨80, [(2, .ptr b1 0), (5, .sl 1 b9 0 v8.1.length), (9, .ptr b18 0)], [(b1, .cells [.str [], .str [], .str [], I (0 : Int), I (0 : Int), I (0 : Int), I (0 : Int), I (0 : Int), I (0 : Int)]), (b9, .arr 1 (v8.1.map I)), (b18, .cells [.str v13, .str q19, .str v11.1, I v15, I v16, I v17])]⟩) ?_ ?_
          · refine ATodo.cond_d rfl (fun hc => ?_) (fun hc => ?_)
            · exact have h := iteT hc h; tR <| rF rfl rfl rfl <| n_store_ptr rfl rfl rfl rfl .p0 rfl rfl <| rN <| ATodo.stop <| ImpX.lq [1, 2, 0] ⟨([] : Str), h, rfl⟩ rfl rfl
            · exact have h := iteF hc h; tK <| ATodo.stop <| ImpX.lq [1, 2, 0] ⟨v14, h, rfl⟩ rfl rfl
          · rintro σ' ⟨q19, h, rfl⟩
            unfold command_readNote_j3 at h
            refine tS <| ATodo.regionM (id := 11) (A := [0, 0, 2, 6, 0, 16, 48, 0, 128, 384, 1023, 2047, 4095]) 11 mixed rfl (by kernel_rfl) (by kernel_rfl) <| AM.qv (q_load_ptr_all rfl rfl .p2 rfl) rfl <| AM.qv (q_move rfl) rfl <| bndE h fun v20 e13 h => AM.qv (t_index_sl rfl rfl rfl e13) rfl <| AM.qv (t_load_aptr (g := I) rfl rfl (.inl .p1) e13 rfl) rfl <| AM.qv (q_move rfl) rfl <| bndE h fun v21 e14 h => AM.qv (t_index_sl rfl rfl rfl e14) rfl <| AM.qv (t_load_aptr (g := I) rfl rfl (.inl .p1) e14 rfl) rfl <| AM.qv (q_move rfl) rfl <| bndE h fun v22 e15 h => AM.qv (t_index_sl rfl rfl rfl e15) rfl <| AM.qv (t_load_aptr (g := I) rfl rfl (.inl .p1) e15 rfl) rfl <| AM.qv (n_build rfl rfl rfl rfl rfl) rfl <| AM.nil <| n_store_ptr rfl rfl rfl rfl .p0 rfl rfl <| rA rfl rfl <| rN <| ATodo.ret <| ?_
            obtain rfl := Option.some.inj h
            exact ImpX.here ⟨_, .cons (.all _ _ _ _ _ _ rfl .p0 TUnder.h TInfo.h rfl rfl) (.cons (.tmp _ _ rfl) .nil), rfl⟩

set_option maxHeartbeats 4000000 in
theorem command_Read_1x_c {b_1 : Bk} {b_1x0 : Bk} {p0x0 : Str} {p1x0 : List Note} {r : Bool × (List Note)} (h : command_Read_1x p0x0 p1x0 = some r) : ACall Tryz.prog 89 [.str p0x0, .ptr b_1 0] [(b_1, .cells [.sl 9 b_1x0 0 p1x0.length]), (b_1x0, .arr 9 (p1x0.map Note.av))] (T1 (fun c_1x0 => [(b_1, .cells [.sl 9 c_1x0 0 r.2.length]), (c_1x0, .arr 9 (r.2.map Note.av))]) (fun c_1x0 => .bool r.1)) := by
  unfold command_Read_1x at h
  refine ACall.lessH ?_
  refine ACall.bodyN Tryz.func89 rfl Tryz.ntmps89 Tryz.results89 rfl rfl ?_
  refine tSR <| rA rfl rfl <| rN <| tSR <| rM rfl rfl <| bndE h fun v1 e1 h => r_callp rfl (command_readNote_c e1) (CoL.refl _) rfl <| rM rfl rfl <| rX rfl rfl rfl <| rX rfl rfl rfl <| n_alloc rfl rfl rfl rfl fun b2 => n_store_ptr rfl rfl rfl rfl .p0 rfl rfl <| rA rfl rfl <| rN <| tSR <| rL rfl rfl .p1 rfl rfl <| ARun.qv (q_load_ptr_all rfl rfl .p0 rfl) rfl <| n_buildSliceL (xs := ([v1.1] : List Note).map Note.av) rfl rfl rfl rfl rfl rfl <| bndE h fun l3 e2 h => t_append (g := Note.av) rfl rfl rfl rfl rfl rfl rfl rfl (.list _) e2 (fun _ => .p2) rfl fun b4 => n_store_ptr rfl rfl rfl rfl .p1 rfl rfl <| rN <| tSR <| rM rfl rfl <| rA rfl rfl <| rN <| ATodo.ret <| ?_
  obtain rfl := Option.some.inj h
  exact ImpX.here ⟨_, .cons (.tmp _ _ rfl) .nil, _, .cons .p1 (.cons .p1 .nil), ⟨b4, rfl, rfl⟩⟩

set_option maxHeartbeats 4000000 in
theorem internal_stringslite_HasSuffix_c [GI : GTab] {p0x0 : Str} {p1x0 : Str} {r : Bool} (h : internal_stringslite_HasSuffix p0x0 p1x0 = some r) : Pu Tryz.prog 250 [.str p0x0, .str p1x0] (.bool r) := by
  unfold internal_stringslite_HasSuffix at h
  refine ACall.bodyN Tryz.func250 rfl Tryz.ntmps250 Tryz.results250 rfl rfl ?_
  refine tSR <| rA rfl rfl <| rN <| tS <| ATodo.cut (fun σ' => ∃ (c1 : Bool), internal_stringslite_HasSuffix_j1 c1 = some r ∧ σ' = ⟨21, [(4, .bool c1)], []⟩) ?_ ?_
  · refine tR <| rM rfl rfl <| ARun.qv (q_len_str rfl) rfl <| rM rfl rfl <| ARun.qv (q_len_str rfl) rfl <| ARun.qv (q_geq rfl rfl) rfl <| rM rfl rfl <| ARun.guard_dt rfl rfl rfl (fun hc => ?_) (fun hc => ?_)
    · exact have h := iteT hc h; rM rfl rfl <| rY rfl rfl rfl <| rM rfl rfl <| rY rfl rfl rfl <| ARun.qv (q_len_str rfl) rfl <| rY rfl rfl rfl <| rM rfl rfl <| rY rfl rfl rfl <| ARun.qv (q_len_str rfl) rfl <| rY rfl rfl rfl <| ARun.qv (q_subw rfl rfl) rfl <| rY rfl rfl rfl <| bndE h fun l2 e1 h => ARun.qv (t_slice_str rfl (.some _ _ _ rfl) .none rfl rfl e1) rfl <| rY rfl rfl rfl <| rM rfl rfl <| rY rfl rfl rfl <| ARun.qv (q_seq rfl rfl) rfl <| rT rfl rfl rfl <| rA rfl rfl <| rN <| ATodo.stop <| ImpX.lq [] ⟨decide (l2 = p1x0), h, rfl⟩ rfl rfl
    · exact have h := iteF hc h; rG rfl rfl rfl rfl <| rG rfl rfl rfl rfl <| rG rfl rfl rfl rfl <| rG rfl rfl rfl rfl <| rG rfl rfl rfl rfl <| rG rfl rfl rfl rfl <| rG rfl rfl rfl rfl <| rG rfl rfl rfl rfl <| rE rfl rfl rfl <| rA rfl rfl <| rN <| ATodo.stop <| ImpX.lq [] ⟨false, h, rfl⟩ rfl rfl
  · rintro σ' ⟨c1, h, rfl⟩
    unfold internal_stringslite_HasSuffix_j1 at h
    refine ATodo.ret <| ?_
    obtain rfl := Option.some.inj h
    exact ImpX.here ⟨_, .cons (.tmp _ _ rfl) .nil, rfl⟩

set_option maxHeartbeats 4000000 in
theorem internal_stringslite_CutSuffix_c [GI : GTab] {p0x0 : Str} {p1x0 : Str} {r : Str × Bool} (h : internal_stringslite_CutSuffix p0x0 p1x0 = some r) : Pu Tryz.prog 218 [.str p0x0, .str p1x0] (.tup [.str r.1, .bool r.2]) := by
  unfold internal_stringslite_CutSuffix at h
  refine ACall.bodyN Tryz.func218 rfl Tryz.ntmps218 Tryz.results218 rfl rfl ?_
  refine tSR <| rA rfl rfl <| rA rfl rfl <| rN <| tS <| tSR <| rM rfl rfl <| rM rfl rfl <| bndE h fun v1 e1 h => r_callp rfl (internal_stringslite_HasSuffix_c e1) (CoL.refl _) rfl <| ARun.qv (q_not rfl) rfl <| rN <| ATodo.cond rfl (fun hc => ?_) (fun hc => ?_)
  · refine have h := iteT hc h; tSR <| rM rfl rfl <| rA rfl rfl <| rA rfl rfl <| rN <| ATodo.ret <| ?_
    obtain rfl := Option.some.inj h
    exact ImpX.here ⟨_, .cons (.tmp _ _ rfl) (.cons (.tmp _ _ rfl) .nil), rfl⟩
  · refine have h := iteFb hc h; tK <| tSR <| rM rfl rfl <| rM rfl rfl <| ARun.qv (q_len_str rfl) rfl <| rM rfl rfl <| ARun.qv (q_len_str rfl) rfl <| ARun.qv (q_subw rfl rfl) rfl <| bndE h fun l2 e2 h => ARun.qv (t_slice_str rfl .none (.some _ _ _ rfl) rfl rfl e2) rfl <| rA rfl rfl <| rA rfl rfl <| rN <| ATodo.ret <| ?_
    obtain rfl := Option.some.inj h
    exact ImpX.here ⟨_, .cons (.tmp _ _ rfl) (.cons (.tmp _ _ rfl) .nil), rfl⟩

set_option maxHeartbeats 4000000 in
theorem strings_CutSuffix_c [GI : GTab] {p0x0 : Str} {p1x0 : Str} {r : Str × Bool} (h : strings_CutSuffix p0x0 p1x0 = some r) : Pu Tryz.prog 174 [.str p0x0, .str p1x0] (.tup [.str r.1, .bool r.2]) := by
  unfold strings_CutSuffix at h
  refine ACall.bodyN Tryz.func174 rfl Tryz.ntmps174 Tryz.results174 rfl rfl ?_
  refine tSR <| rA rfl rfl <| rA rfl rfl <| rN <| tSR <| rM rfl rfl <| rM rfl rfl <| bndE h fun v1 e1 h => r_callp rfl (internal_stringslite_CutSuffix_c e1) (CoL.refl _) rfl <| rX rfl rfl rfl <| rX rfl rfl rfl <| rA rfl rfl <| rA rfl rfl <| rN <| ATodo.ret <| ?_
  obtain rfl := Option.some.inj h
  exact ImpX.here ⟨_, .cons (.tmp _ _ rfl) (.cons (.tmp _ _ rfl) .nil), rfl⟩

set_option maxHeartbeats 4000000 in
theorem base_Lines_c {p0x0 : Str} {r : (List Str) × Bool} (h : base_Lines p0x0 = some r) : ACall Tryz.prog 128 [.str p0x0] [] (T1 (fun d_0 => [(d_0, .arr 1 (r.1.map AV.str))]) (fun d_0 => .tup [.sl 1 d_0 0 r.1.length, .bool r.2])) := by
  unfold base_Lines at h
  refine ACall.lessH ?_
  refine ACall.bodyN Tryz.func128 rfl Tryz.ntmps128 Tryz.results128 rfl rfl ?_
  refine tSR <| rA rfl rfl <| rA rfl rfl <| rN <| tS <| tSR <| rM rfl rfl <| ARun.qv (q_seq rfl rfl) rfl <| rN <| ATodo.cond_d rfl (fun hc => ?_) (fun hc => ?_)
  · refine have h := iteT hc h; tSR <| rA rfl rfl <| rA rfl rfl <| rN <| ATodo.ret <| ?_
    obtain rfl := Option.some.inj h
    exact ImpX.arr (s := 2) 1 rfl fun b1 => ImpX.here ⟨_, .cons (.tmp _ _ rfl) (.cons (.tmp _ _ rfl) .nil), _, .cons .p0 .nil, ⟨b1, rfl, rfl⟩⟩
  · refine have h := iteF hc h; tK <| tSR <| rM rfl rfl <| bndE h fun v2 e1 h => r_callp rfl (strings_CutSuffix_c e1) (CoL.refl _) rfl <| rM rfl rfl <| rX rfl rfl rfl <| rX rfl rfl rfl <| rA rfl rfl <| rA rfl rfl <| rN <| tSR <| rM rfl rfl <| bndE h fun v3 e2 h => t_call1 rfl (strings_Split_c e2) (CoL.refl _) .nil (fun _ => rfl) rfl fun b4 => rM rfl rfl <| rA rfl rfl <| rA rfl rfl <| rN <| ATodo.ret <| ?_
    obtain rfl := Option.some.inj h
    exact ImpX.here ⟨_, .cons (.tmp _ _ rfl) (.cons (.tmp _ _ rfl) .nil), _, .cons .p0 .nil, ⟨b4, rfl, rfl⟩⟩

set_option maxHeartbeats 4000000 in
theorem base_Each_f1x_command_Read_1x_c {b_2 : Bk} {b_2x0 : Bk} {p0x0 : Str} {p2x0 : List Note} {r : Int × Bool × (List Note)} (h : base_Each_f1x_command_Read_1x p0x0 p2x0 = some r) : ACall Tryz.prog 65 [.str p0x0, .func (.func 89) [.ptr b_2 0]] [(b_2, .cells [.sl 9 b_2x0 0 p2x0.length]), (b_2x0, .arr 9 (p2x0.map Note.av))] (T1 (fun c_2x0 => [(b_2, .cells [.sl 9 c_2x0 0 r.2.2.length]), (c_2x0, .arr 9 (r.2.2.map Note.av))]) (fun c_2x0 => .tup [I r.1, .bool r.2.1])) := by
  unfold base_Each_f1x_command_Read_1x at h
  refine ACall.lessH ?_
  refine ACall.bodyN Tryz.func65 rfl Tryz.ntmps65 Tryz.results65 rfl rfl ?_
  refine tSR <| rA rfl rfl <| rA rfl rfl <| rN <| tSR <| rM rfl rfl <| bndE h fun v1 e1 h => t_call1 rfl (base_Lines_c e1) (CoL.refl _) .nil (fun _ => rfl) rfl fun b2 => rM rfl rfl <| rX rfl rfl rfl <| rX rfl rfl rfl <| rA rfl rfl <| rA rfl rfl <| rN <| tS <| tSR <| rM rfl rfl <| ARun.qv (t_len_sl rfl) rfl <| rM rfl rfl <| rN <| ATodo.block <| ATodo.loopI (fun x : (List Note) × Int => base_Each_f1x_command_Read_1x_b1 v1 x.1 x.2) (fun x σ' => ∃ (b6 : Bk), σ' = ⟨39, [(1, .func (.func 89) [.ptr b_2 0]), (6, .sl 1 b2 0 v1.1.length), (7, .bool v1.2), (15, .sl 1 b2 0 v1.1.length), (16, I (v1.1.length : Int)), (17, I x.2)], [(b_2, .cells [.sl 9 b6 0 x.1.length]), (b6, .arr 9 (x.1.map Note.av)), (b2, .arr 1 (v1.1.map AV.str))]⟩) h ?_ ?_
  · exact ImpX.lq [1, 1, 0] ⟨b_2x0, rfl⟩ rfl rfl
  · intro x z1 σ' J1 hmk h hJ1 hA1
    obtain ⟨l7, n8⟩ := x
    obtain ⟨b6, rfl⟩ := hmk
    replace h : base_Each_f1x_command_Read_1x_b1 v1 l7 n8 = some z1 := h
    unfold base_Each_f1x_command_Read_1x_b1 at h
    refine tSR <| ARun.qv (q_lss rfl rfl) rfl <| rN <| tS <| ATodo.cond_d rfl (fun hc => ?_) (fun hc => ?_)
    · refine have h := iteT hc h; tK <| tS <| ATodo.block <| tSR <| rM rfl rfl <| bndE h fun v9 e2 h => ARun.qv (t_index_sl rfl rfl rfl e2) rfl <| ARun.qv (t_load_aptr (g := AV.str) rfl rfl (.inl .p2) e2 rfl) rfl <| rA rfl rfl <| rA rfl rfl <| rN <| tS <| ATodo.cut (fun σ' => ∃ (b10 : Bk) (l11 : List Note) (c12 : Bool), base_Each_f1x_command_Read_1x_j1 n8 l11 c12 = some z1 ∧ σ' = ⟨39, [(1, .func (.func 89) [.ptr b_2 0]), (6, .sl 1 b2 0 v1.1.length), (7, .bool v1.2), (8, I n8), (15, .sl 1 b2 0 v1.1.length), (16, I (v1.1.length : Int)), (17, I n8), (36, .bool c12)], [(b_2, .cells [.sl 9 b10 0 l11.length]), (b10, .arr 9 (l11.map Note.av)), (b2, .arr 1 (v1.1.map AV.str))]⟩) ?_ ?_
      · refine tR <| rM rfl rfl <| ARun.qv (q_not rfl) rfl <| rM rfl rfl <| ARun.guard rfl rfl rfl (fun hc => ?_) (fun hc => ?_)
        · refine have h := iteT hc h; rM rfl rfl <| rY rfl rfl rfl <| rM rfl rfl <| rY rfl rfl rfl <| ARun.qv (t_len_sl rfl) rfl <| rY rfl rfl rfl <| ARun.qv (q_subw rfl rfl) rfl <| rY rfl rfl rfl <| ARun.qv (q_eql rfl rfl) rfl <| rT rfl rfl rfl <| rM rfl rfl <| ARun.guard_df rfl rfl rfl (fun hc => ?_) (fun hc => ?_)
          · exact have h := iteF hc h; rM rfl rfl <| rY rfl rfl rfl <| rM rfl rfl <| rY rfl rfl rfl <| bndE h fun v13 e3 h => t_callv1 rfl rfl rfl (command_Read_1x_c e3) (CoL.refl _) (.cons .p0 (.cons .p0 .nil)) (fun _ => rfl) rfl fun b14 => rY rfl rfl rfl <| ARun.qv (q_not rfl) rfl <| rE rfl rfl rfl <| rN <| ATodo.stop <| ImpX.lq [0, 0, 0] ⟨b14, v13.2, !v13.1, h, rfl⟩ rfl rfl
          · exact have h := iteT hc h; rG rfl rfl rfl rfl <| rG rfl rfl rfl rfl <| rG rfl rfl rfl rfl <| rT rfl rfl rfl <| rN <| ATodo.stop <| ImpX.lq [0, 0, 0] ⟨b6, l7, true, h, rfl⟩ rfl rfl
        · exact have h := iteFb hc h; rG rfl rfl rfl rfl <| rG rfl rfl rfl rfl <| rG rfl rfl rfl rfl <| rG rfl rfl rfl rfl <| rE rfl rfl rfl <| rM rfl rfl <| rY rfl rfl rfl <| rM rfl rfl <| rY rfl rfl rfl <| rM rfl rfl <| rY rfl rfl rfl <| bndE h fun v15 e4 h => t_callv1 rfl rfl rfl (command_Read_1x_c e4) (CoL.refl _) (.cons .p0 (.cons .p0 .nil)) (fun _ => rfl) rfl fun b16 => rY rfl rfl rfl <| ARun.qv (q_not rfl) rfl <| rE rfl rfl rfl <| rN <| ATodo.stop <| ImpX.lq [0, 0, 0] ⟨b16, v15.2, !v15.1, h, rfl⟩ rfl rfl
      · rintro σ' ⟨b10, l11, c12, h, rfl⟩
        unfold base_Each_f1x_command_Read_1x_j1 at h
        refine ATodo.cond rfl (fun hc => ?_) (fun hc => ?_)
        · refine have h := iteT hc h; tSR <| rM rfl rfl <| rA rfl rfl <| rA rfl rfl <| rN <| ATodo.ret <| have h := outL h hA1; ?_
          obtain rfl := Option.some.inj h
          exact ImpX.here ⟨_, .cons (.tmp _ _ rfl) (.cons (.tmp _ _ rfl) .nil), _, .cons .p0 (.cons .p0 .nil), ⟨b10, rfl, rfl⟩⟩
        · refine have h := iteFb hc h; tK <| ATodo.blk <| tR <| ARun.qv (q_addw rfl rfl) rfl <| rM rfl rfl <| rN <| ATodo.stop <| ?_
          obtain rfl := Option.some.inj h
          exact hJ1 _ _ rfl <| ImpX.lq [0, 0, 0] ⟨b10, rfl⟩ rfl rfl
    · refine have h := iteF hc h; ATodo.exit rfl <| have h := outL h hA1; tSR <| rA rfl rfl <| rA rfl rfl <| rN <| ATodo.ret <| ?_
      obtain rfl := Option.some.inj h
      exact ImpX.here ⟨_, .cons (.tmp _ _ rfl) (.cons (.tmp _ _ rfl) .nil), _, .cons .p0 (.cons .p0 .nil), ⟨b6, rfl, rfl⟩⟩

set_option maxHeartbeats 4000000 in
theorem command_Read_c {p0x0 : Str} {r : (List Note) × Int × Int} (h : command_Read p0x0 = some r) : ACall Tryz.prog 31 [.str p0x0] [] (T1 (fun d_0 => [(d_0, .arr 9 (r.1.map Note.av))]) (fun d_0 => .tup [.sl 9 d_0 0 r.1.length, I r.2.1, I r.2.2])) := by
  unfold command_Read at h
  refine ACall.lessH ?_
  refine ACall.bodyN Tryz.func31 rfl Tryz.ntmps31 Tryz.results31 rfl rfl ?_
  refine tSR <| rA rfl rfl <| rA rfl rfl <| rA rfl rfl <| rN <| tS <| tSR <| rM rfl rfl <| ARun.qv (q_len_str rfl) rfl <| ARun.qv (q_gtr rfl rfl) rfl <| rN <| ATodo.cond_d rfl (fun hc => ?_) (fun hc => ?_)
  · refine have h := iteT hc h; tSR <| rA rfl rfl <| rA rfl rfl <| rA rfl rfl <| rN <| ATodo.ret <| ?_
    obtain rfl := Option.some.inj h
    exact ImpX.arr (s := 2) 9 rfl fun b1 => ImpX.here ⟨_, .cons (.tmp _ _ rfl) (.cons (.tmp _ _ rfl) (.cons (.tmp _ _ rfl) .nil)), _, .cons .p0 .nil, ⟨b1, rfl, rfl⟩⟩
  · refine have h := iteF hc h; tK <| tSR <| n_alloc rfl rfl rfl rfl fun b2 => rN <| tSR <| rM rfl rfl <| ARun.qv (q_makeFunc rfl) rfl <| bndE h fun v3 e1 h => ARun.ghost <| ImpX.arrBox (j := 0) 9 (fun _ => .p0) rfl (fun _ => rfl) (fun _ => rfl) fun b4 => ImpX.here <| t_call1 rfl (base_Each_f1x_command_Read_1x_c e1) (CoL.refl _) (.cons .p1 (.cons .p0 .nil)) (fun _ => rfl) rfl fun b5 => rM rfl rfl <| rX rfl rfl rfl <| rX rfl rfl rfl <| rA rfl rfl <| rA rfl rfl <| rN <| tS <| tSR <| rM rfl rfl <| ARun.qv (q_not rfl) rfl <| rN <| ATodo.cond rfl (fun hc => ?_) (fun hc => ?_)
    · refine have h := iteT hc h; tSR <| rM rfl rfl <| rA rfl rfl <| rA rfl rfl <| rA rfl rfl <| rN <| ATodo.ret <| ?_
      obtain rfl := Option.some.inj h
      exact ImpX.arr (s := 2) 9 rfl fun b6 => ImpX.here ⟨_, .cons (.tmp _ _ rfl) (.cons (.tmp _ _ rfl) (.cons (.tmp _ _ rfl) .nil)), _, .cons .p0 .nil, ⟨b6, rfl, rfl⟩⟩
    · refine have h := iteFb hc h; tK <| tS <| tSR <| rL rfl rfl .p0 rfl rfl <| bndE h fun v7 e2 h => r_callpB rfl (command_CheckNotes_c e2) (.cons (CoB.arrT .p1) .nil) rfl rfl <| rA rfl rfl <| rN <| tSR <| rM rfl rfl <| ARun.qv (q_neq rfl rfl) rfl <| rN <| ATodo.cond_d rfl (fun hc => ?_) (fun hc => ?_)
      · refine have h := iteT hc h; tSR <| rM rfl rfl <| rA rfl rfl <| rA rfl rfl <| rA rfl rfl <| rN <| ATodo.ret <| ?_
        obtain rfl := Option.some.inj h
        exact ImpX.arr (s := 2) 9 rfl fun b8 => ImpX.here ⟨_, .cons (.tmp _ _ rfl) (.cons (.tmp _ _ rfl) (.cons (.tmp _ _ rfl) .nil)), _, .cons .p0 .nil, ⟨b8, rfl, rfl⟩⟩
      · refine have h := iteF hc h; tK <| tSR <| rL rfl rfl .p0 rfl rfl <| rA rfl rfl <| rA rfl rfl <| rA rfl rfl <| rN <| ATodo.ret <| ?_
        obtain rfl := Option.some.inj h
        exact ImpX.here ⟨_, .cons (.tmp _ _ rfl) (.cons (.tmp _ _ rfl) (.cons (.tmp _ _ rfl) .nil)), _, .cons .p1 .nil, ⟨b5, rfl, rfl⟩⟩

set_option maxHeartbeats 4000000 in
theorem slices_Index_string_string_c [GI : GTab] {p0x0 : List Str} {p1x0 : Str} {r : Int} (h : slices_Index_string_string p0x0 p1x0 = some r) : Pu Tryz.prog 132 [.list 1 (p0x0.map AV.str), .str p1x0] (I r) := by
  unfold slices_Index_string_string at h
  refine ACall.bodyN Tryz.func132 rfl Tryz.ntmps132 Tryz.results132 rfl rfl ?_
  refine tSR <| rA rfl rfl <| rN <| tS <| tSR <| rM rfl rfl <| ARun.qv (t_len rfl) rfl <| rM rfl rfl <| rN <| ATodo.block <| ATodo.loopI (fun x : Int => slices_Index_string_string_b1 p0x0 p1x0 x) (fun x σ' => σ' = ⟨19, [(0, .list 1 (p0x0.map AV.str)), (1, .str p1x0), (7, I (p0x0.length : Int)), (8, I x)], []⟩) h ?_ ?_
  · exact ImpX.lq [] rfl rfl rfl
  · intro n2 z1 σ' J1 hmk h hJ1 hA1
    obtain rfl := hmk
    replace h : slices_Index_string_string_b1 p0x0 p1x0 n2 = some z1 := h
    unfold slices_Index_string_string_b1 at h
    refine tSR <| ARun.qv (q_lss rfl rfl) rfl <| rN <| tS <| ATodo.cond_d rfl (fun hc => ?_) (fun hc => ?_)
    · refine have h := iteT hc h; tK <| tS <| ATodo.block <| tSR <| rM rfl rfl <| rA rfl rfl <| rN <| tSR <| rM rfl rfl <| rM rfl rfl <| rM rfl rfl <| bndE h fun v3 e1 h => ARun.qv (t_index rfl rfl rfl e1 rfl rfl) rfl <| ARun.qv (q_load_rptr rfl rfl rfl) rfl <| ARun.qv (q_seq rfl rfl) rfl <| rN <| ATodo.cond_d rfl (fun hc => ?_) (fun hc => ?_)
      · refine have h := iteT hc h; tSR <| rM rfl rfl <| rA rfl rfl <| rN <| ATodo.ret <| have h := outL h hA1; ?_
        obtain rfl := Option.some.inj h
        exact ImpX.here ⟨_, .cons (.tmp _ _ rfl) .nil, rfl⟩
      · refine have h := iteF hc h; tK <| ATodo.blk <| tR <| ARun.qv (q_addw rfl rfl) rfl <| rM rfl rfl <| rN <| ATodo.stop <| ?_
        obtain rfl := Option.some.inj h
        exact hJ1 _ _ rfl <| ImpX.lq [] rfl rfl rfl
    · refine have h := iteF hc h; ATodo.exit rfl <| have h := outL h hA1; tSR <| rA rfl rfl <| rN <| ATodo.ret <| ?_
      obtain rfl := Option.some.inj h
      exact ImpX.here ⟨_, .cons (.tmp _ _ rfl) .nil, rfl⟩

set_option maxHeartbeats 4000000 in
theorem slices_Contains_string_string_c [GI : GTab] {p0x0 : List Str} {p1x0 : Str} {r : Bool} (h : slices_Contains_string_string p0x0 p1x0 = some r) : Pu Tryz.prog 72 [.list 1 (p0x0.map AV.str), .str p1x0] (.bool r) := by
  unfold slices_Contains_string_string at h
  refine ACall.bodyN Tryz.func72 rfl Tryz.ntmps72 Tryz.results72 rfl rfl ?_
  refine tSR <| rA rfl rfl <| rN <| tSR <| rM rfl rfl <| rM rfl rfl <| bndE h fun v1 e1 h => r_callp rfl (slices_Index_string_string_c e1) (CoL.refl _) rfl <| ARun.qv (q_geq rfl rfl) rfl <| rA rfl rfl <| rN <| ATodo.ret <| ?_
  obtain rfl := Option.some.inj h
  exact ImpX.here ⟨_, .cons (.tmp _ _ rfl) .nil, rfl⟩

set_option maxHeartbeats 4000000 in
theorem Q_Number_c {p0x0 : Str} {p1x0 : Int} {r : Int × Bool} (h : Q_Number p0x0 p1x0 = some r) : Pu Tryz.prog 73 [.str p0x0, I p1x0] (.tup [I r.1, .bool r.2]) := by
  unfold Q_Number at h
  refine ACall.bodyN Tryz.func73 rfl Tryz.ntmps73 Tryz.results73 rfl rfl ?_
  refine tSR <| rA rfl rfl <| rA rfl rfl <| rN <| tSR <| rM rfl rfl <| r_callp rfl (strings_TrimPrefix_c rfl) (CoL.refl _) rfl <| rA rfl rfl <| rN <| tS <| tS <| ATodo.cut (fun σ' => ∃ (c1 : Bool), Q_Number_j1 p0x0 c1 = some r ∧ σ' = ⟨38, [(0, .str p0x0), (23, .bool c1)], []⟩) ?_ ?_
  · refine tR <| rM rfl rfl <| ARun.qv (q_seq rfl rfl) rfl <| rM rfl rfl <| ARun.guard_df rfl rfl rfl (fun hc => ?_) (fun hc => ?_)
    · refine have h := iteF hc h; rM rfl rfl <| rY rfl rfl rfl <| ARun.qv (q_len_str rfl) rfl <| rY rfl rfl rfl <| rM rfl rfl <| rY rfl rfl rfl <| ARun.qv (q_gtr rfl rfl) rfl <| rE rfl rfl rfl <| rM rfl rfl <| ARun.guard_df rfl rfl rfl (fun hc => ?_) (fun hc => ?_)
      · exact have h := iteF hc h; rM rfl rfl <| rY rfl rfl rfl <| bndE h fun v2 e1 h => r_callp rfl (Q_only_c e1) (CoL.refl _) rfl <| rY rfl rfl rfl <| ARun.qv (q_not rfl) rfl <| rE rfl rfl rfl <| rN <| ATodo.stop <| ImpX.lq [] ⟨!v2, h, rfl⟩ rfl rfl
      · exact have h := iteT hc h; rG rfl rfl rfl rfl <| rG rfl rfl rfl rfl <| rT rfl rfl rfl <| rN <| ATodo.stop <| ImpX.lq [] ⟨true, h, rfl⟩ rfl rfl
    · exact have h := iteT hc h; rG rfl rfl rfl rfl <| rG rfl rfl rfl rfl <| rG rfl rfl rfl rfl <| rT rfl rfl rfl <| rM rfl rfl <| rG rfl rfl rfl rfl <| rG rfl rfl rfl rfl <| rG rfl rfl rfl rfl <| rT rfl rfl rfl <| rN <| ATodo.stop <| ImpX.lq [] ⟨true, h, rfl⟩ rfl rfl
  · rintro σ' ⟨c1, h, rfl⟩
    unfold Q_Number_j1 at h
    refine ATodo.cond rfl (fun hc => ?_) (fun hc => ?_)
    · refine have h := iteT hc h; tSR <| rA rfl rfl <| rA rfl rfl <| rN <| ATodo.ret <| ?_
      obtain rfl := Option.some.inj h
      exact ImpX.here ⟨_, .cons (.tmp _ _ rfl) (.cons (.tmp _ _ rfl) .nil), rfl⟩
    · refine have h := iteFb hc h; tK <| tSR <| rM rfl rfl <| bndE h fun v3 e2 h => t_callE rfl (strconv_Atoi_c e2) (CoL.refl _) rfl fun e4 e3 => rM rfl rfl <| rX rfl rfl rfl <| rX rfl rfl rfl <| rA rfl rfl <| rA rfl rfl <| rN <| tS <| ATodo.cut (fun σ' => ∃ (c5 : Bool), Q_Number_j2 v3 c5 = some r ∧ σ' = ⟨38, [(4, I v3.1), (5, .bool c5)], []⟩) ?_ ?_
      · refine tR <| rM rfl rfl <| rM rfl rfl <| ARun.qv (q_eqE e3 rfl) rfl <| rM rfl rfl <| ARun.guard rfl rfl rfl (fun hc => ?_) (fun hc => ?_)
        · exact have h := iteT hc h; rM rfl rfl <| rY rfl rfl rfl <| bndE h fun v6 e4 h => r_callp rfl (strconv_Itoa_c e4) (CoL.refl _) rfl <| rY rfl rfl rfl <| rM rfl rfl <| rY rfl rfl rfl <| ARun.qv (q_seq rfl rfl) rfl <| rT rfl rfl rfl <| rA rfl rfl <| rA rfl rfl <| rN <| ATodo.stop <| ImpX.lq [] ⟨decide (v6 = p0x0), h, rfl⟩ rfl rfl
        · exact have h := iteFb hc h; rG rfl rfl rfl rfl <| rG rfl rfl rfl rfl <| rG rfl rfl rfl rfl <| rE rfl rfl rfl <| rA rfl rfl <| rA rfl rfl <| rN <| ATodo.stop <| ImpX.lq [] ⟨false, h, rfl⟩ rfl rfl
      · rintro σ' ⟨c5, h, rfl⟩
        unfold Q_Number_j2 at h
        refine ATodo.ret <| ?_
        obtain rfl := Option.some.inj h
        exact ImpX.here ⟨_, .cons (.tmp _ _ rfl) (.cons (.tmp _ _ rfl) .nil), rfl⟩

set_option maxHeartbeats 4000000 in
theorem Q_Unquoted_c {p0x0 : Str} {r : Str × Bool} (h : Q_Unquoted p0x0 = some r) : Pu Tryz.prog 93 [.str p0x0] (.tup [.str r.1, .bool r.2]) := by
  unfold Q_Unquoted at h
  refine ACall.bodyN Tryz.func93 rfl Tryz.ntmps93 Tryz.results93 rfl rfl ?_
  refine tSR <| rA rfl rfl <| rA rfl rfl <| rN <| tSR <| rA rfl rfl <| rN <| tS <| tSR <| rA rfl rfl <| rN <| ATodo.block <| ATodo.loopI (fun x : (List Int) × Int => Q_Unquoted_b1 p0x0 x.1 x.2) (fun x σ' => ∃ (b4 : Bk), σ' = ⟨37, [(0, .str p0x0), (4, .sl 1 b4 0 x.1.length), (5, I x.2)], [(b4, .arr 1 (x.1.map (AV.int .u8)))]⟩) h ?_ ?_
  · exact ImpX.arr (s := 4) 1 rfl fun b7 => ImpX.lq [0] ⟨b7, rfl⟩ rfl rfl
  · intro x z1 σ' J1 hmk h hJ1 hA1
    obtain ⟨l5, n6⟩ := x
    obtain ⟨b4, rfl⟩ := hmk
    replace h : Q_Unquoted_b1 p0x0 l5 n6 = some z1 := h
    unfold Q_Unquoted_b1 at h
    refine tS <| tSR <| rM rfl rfl <| rM rfl rfl <| ARun.qv (q_len_str rfl) rfl <| ARun.qv (q_subw rfl rfl) rfl <| ARun.qv (q_lss rfl rfl) rfl <| rN <| ATodo.cond_d rfl (fun hc => ?_) (fun hc => ?_)
    · refine have h := iteT hc h; tK <| tS <| ATodo.block <| tS <| tSR <| rM rfl rfl <| rM rfl rfl <| bndE h fun c8 e1 h => ARun.qv (t_index_str rfl rfl e1) rfl <| ARun.qv (q_eql rfl rfl) rfl <| rN <| ATodo.cut (fun σ' => ∃ (n9 : Int), Q_Unquoted_j1 p0x0 l5 n9 = some z1 ∧ σ' = ⟨37, [(0, .str p0x0), (4, .sl 1 b4 0 l5.length), (5, I n9)], [(b4, .arr 1 (l5.map (AV.int .u8)))]⟩) ?_ ?_
      · refine ATodo.cond_d rfl (fun hc => ?_) (fun hc => ?_)
        · exact have h := iteT hc h; tR <| rM rfl rfl <| ARun.qv (q_addw rfl rfl) rfl <| rA rfl rfl <| rN <| ATodo.stop <| ImpX.lq [0] ⟨w64 (n6 + (1 : Int)), h, rfl⟩ rfl rfl
        · exact have h := iteF hc h; tK <| ATodo.stop <| ImpX.lq [0] ⟨n6, h, rfl⟩ rfl rfl
      · rintro σ' ⟨n9, h, rfl⟩
        unfold Q_Unquoted_j1 at h
        refine tR <| rM rfl rfl <| rM rfl rfl <| rM rfl rfl <| bndE h fun c10 e2 h => ARun.qv (t_index_str rfl rfl e2) rfl <| n_buildSliceL (xs := ([(c10.toNat : Int)]).map (AV.int .u8)) rfl rfl rfl rfl rfl rfl <| bndE h fun l11 e3 h => t_append (g := (AV.int .u8)) rfl rfl rfl rfl rfl rfl rfl rfl (.list _) e3 (fun _ => .p0) rfl fun b12 => rA rfl rfl <| rN <| ATodo.blk <| tR <| rM rfl rfl <| ARun.qv (q_addw rfl rfl) rfl <| rA rfl rfl <| rN <| ATodo.stop <| ?_
        obtain rfl := Option.some.inj h
        exact hJ1 _ _ rfl <| ImpX.lq [0] ⟨b12, rfl⟩ rfl rfl
    · refine have h := iteF hc h; ATodo.exit rfl <| have h := outL h hA1; ?_
      unfold Q_Unquoted_k3 at h
      refine tS <| ATodo.cut (fun σ' => ∃ (c13 : Bool), Q_Unquoted_j2 l5 c13 = some r ∧ σ' = ⟨37, [(2, .str (strB l5)), (3, .bool c13)], []⟩) ?_ ?_
      · refine ATodo.regionM (id := 8) (A := [0, 1, 0, 4, 12, 28, 60, 124, 252, 60, 1020, 2044, 511, 8191]) 14 mixed rfl (by kernel_rfl) (by kernel_rfl) <| AM.qv (q_move rfl) rfl <| AM.qv (q_conv_bs rfl (CoB.arrT .p0)) rfl <| AM.qv (q_move rfl) rfl <| AM.qv (q_len_str rfl) rfl <| AM.qv (q_geq rfl rfl) rfl <| AM.qv (q_move rfl) rfl <| AM.guard_dt rfl rfl rfl (fun hc => ?_) (fun hc => ?_)
        · exact have h := iteT hc h; AM.qv (q_move rfl) rfl <| AM.guard_yes rfl rfl rfl <| AM.qv (q_conv_bs rfl (CoB.arrT .p0)) rfl <| AM.guard_yes rfl rfl rfl <| bndE h fun v14 e4 h => AM.callp rfl (Q_Quoted_c e4) (CoL.refl _) rfl <| AM.guard_yes rfl rfl rfl <| AM.qv (q_move rfl) rfl <| AM.guard_yes rfl rfl rfl <| AM.qv (q_seq rfl rfl) rfl <| AM.qv (q_pick_t rfl rfl) rfl <| AM.qv (q_assign rfl) rfl <| AM.qv (q_assign rfl) rfl <| AM.nil <| rN <| ATodo.stop <| ImpX.lq [] ⟨decide (v14 = p0x0), h, rfl⟩ rfl rfl
        · exact have h := iteF hc h; AM.guard_no rfl rfl rfl rfl <| AM.guard_no rfl rfl rfl rfl <| AM.guard_no rfl rfl rfl rfl <| AM.guard_no rfl rfl rfl rfl <| AM.qv (q_pick_f rfl rfl) rfl <| AM.qv (q_assign rfl) rfl <| AM.qv (q_assign rfl) rfl <| AM.nil <| rN <| ATodo.stop <| ImpX.lq [] ⟨false, h, rfl⟩ rfl rfl
      · rintro σ' ⟨c13, h, rfl⟩
        unfold Q_Unquoted_j2 at h
        refine ATodo.ret <| ?_
        obtain rfl := Option.some.inj h
        exact ImpX.here ⟨_, .cons (.tmp _ _ rfl) (.cons (.tmp _ _ rfl) .nil), rfl⟩

set_option maxHeartbeats 4000000 in
theorem Q_NotesRead_1x_c {b_1 : Bk} {b_1x0 : Bk} {p0x0 : Str} {p1x0 : List Note} {r : Bool × (List Note)} (h : Q_NotesRead_1x p0x0 p1x0 = some r) : ACall Tryz.prog 91 [.str p0x0, .ptr b_1 0] [(b_1, .cells [.sl 9 b_1x0 0 p1x0.length]), (b_1x0, .arr 9 (p1x0.map Note.av))] (T1 (fun c_1x0 => [(b_1, .cells [.sl 9 c_1x0 0 r.2.length]), (c_1x0, .arr 9 (r.2.map Note.av))]) (fun c_1x0 => .bool r.1)) := by
  unfold Q_NotesRead_1x at h
  refine ACall.lessH ?_
  refine ACall.bodyN Tryz.func91 rfl Tryz.ntmps91 Tryz.results91 rfl rfl ?_
  refine tSR <| rA rfl rfl <| rN <| tSR <| rM rfl rfl <| bndE h fun v1 e1 h => t_call1 rfl (strings_SplitN_c e1) (CoL.refl _) .nil (fun _ => rfl) rfl fun b2 => rA rfl rfl <| rN <| tS <| tS <| ATodo.cut (fun σ' => ∃ (c3 : Bool), Q_NotesRead_1x_j1 p1x0 v1 c3 = some r ∧ σ' = ⟨75, [(1, .ptr b_1 0), (4, .sl 1 b2 0 v1.length), (19, .bool c3)], [(b_1, .cells [.sl 9 b_1x0 0 p1x0.length]), (b_1x0, .arr 9 (p1x0.map Note.av)), (b2, .arr 1 (v1.map AV.str))]⟩) ?_ ?_
  · refine tR <| rM rfl rfl <| ARun.qv (t_len_sl rfl) rfl <| ARun.qv (q_neq rfl rfl) rfl <| rM rfl rfl <| ARun.guard_df rfl rfl rfl (fun hc => ?_) (fun hc => ?_)
    · exact have h := iteF hc h; rM rfl rfl <| rY rfl rfl rfl <| bndE h fun l4 e2 h => ARun.qv (t_slice_sl rfl rfl .none (.some _ _ _ rfl) rfl rfl e2) rfl <| rY rfl rfl rfl <| bndE h fun v5 e3 h => r_callpB rfl (slices_Contains_string_string_c e3) (.cons (CoB.partT e2 .p0) (.cons (.co (.refl _)) .nil)) rfl rfl <| rE rfl rfl rfl <| rN <| ATodo.stop <| ImpX.lq [1, 1, 0] ⟨v5, h, rfl⟩ rfl rfl
    · exact have h := iteT hc h; rG rfl rfl rfl rfl <| rG rfl rfl rfl rfl <| rT rfl rfl rfl <| rN <| ATodo.stop <| ImpX.lq [1, 1, 0] ⟨true, h, rfl⟩ rfl rfl
  · rintro σ' ⟨c3, h, rfl⟩
    unfold Q_NotesRead_1x_j1 at h
    refine ATodo.cond rfl (fun hc => ?_) (fun hc => ?_)
    · refine have h := iteT hc h; tSR <| rA rfl rfl <| rN <| ATodo.ret <| ?_
      obtain rfl := Option.some.inj h
      exact ImpX.here ⟨_, .cons (.tmp _ _ rfl) .nil, _, .cons .p0 (.cons .p0 .nil), ⟨b_1x0, rfl, rfl⟩⟩
    · refine have h := iteFb hc h; tK <| tSR <| n_allocA (g := I) (Xs := ([(0 : Int), (0 : Int), (0 : Int), (0 : Int), (0 : Int), (0 : Int)] : List Int)) rfl rfl rfl rfl rfl rfl fun b6 => rN <| tS <| tSR <| rM rfl rfl <| rN <| ATodo.block <| ATodo.loopI (fun x : (List Int) × Int => Q_NotesRead_1x_b1 p1x0 v1 x.1 x.2) (fun x σ' => σ' = ⟨75, [(1, .ptr b_1 0), (4, .sl 1 b2 0 v1.length), (5, .ptr b6 0), (20, I x.2)], [(b_1, .cells [.sl 9 b_1x0 0 p1x0.length]), (b_1x0, .arr 9 (p1x0.map Note.av)), (b2, .arr 1 (v1.map AV.str)), (b6, .arr 1 (x.1.map I))]⟩) h ?_ ?_
      · exact ImpX.lq [1, 1, 1, 0] rfl rfl rfl
      · intro x z1 σ' J1 hmk h hJ1 hA1
        obtain ⟨l9, n10⟩ := x
        obtain rfl := hmk
        replace h : Q_NotesRead_1x_b1 p1x0 v1 l9 n10 = some z1 := h
        unfold Q_NotesRead_1x_b1 at h
        refine tSR <| ARun.qv (q_lss rfl rfl) rfl <| rN <| tS <| ATodo.cond_d rfl (fun hc => ?_) (fun hc => ?_)
        · refine have h := iteT hc h; tK <| tS <| ATodo.block <| tSR <| rM rfl rfl <| rA rfl rfl <| rN <| tSR <| rA rfl rfl <| rN <| tSR <| rM rfl rfl <| rM rfl rfl <| rM rfl rfl <| ARun.qv (q_addw rfl rfl) rfl <| bndE h fun v11 e4 h => ARun.qv (t_index_sl rfl rfl rfl e4) rfl <| ARun.qv (t_load_aptr (g := AV.str) rfl rfl (.inl .p2) e4 rfl) rfl <| bndE h fun v12 e5 h => r_callp rfl (Q_Number_c e5) (CoL.refl _) rfl <| rM rfl rfl <| rX rfl rfl rfl <| rX rfl rfl rfl <| bndE h fun v13 e6 h => ARun.qv (t_index_ar rfl rfl rfl e6) rfl <| t_store_aptr1 (g := I) (el' := v12.1) rfl rfl rfl rfl (idxA_some e6).2 rfl .p3 rfl <| rA rfl rfl <| rN <| tSR <| rM rfl rfl <| ARun.qv (q_not rfl) rfl <| rN <| ATodo.cond rfl (fun hc => ?_) (fun hc => ?_)
          · refine have h := iteT hc h; tSR <| rA rfl rfl <| rN <| ATodo.ret <| have h := outL h hA1; ?_
            obtain rfl := Option.some.inj h
            exact ImpX.here ⟨_, .cons (.tmp _ _ rfl) .nil, _, .cons .p0 (.cons .p0 .nil), ⟨b_1x0, rfl, rfl⟩⟩
          · refine have h := iteFb hc h; tK <| ATodo.blk <| tR <| ARun.qv (q_addw rfl rfl) rfl <| rM rfl rfl <| rN <| ATodo.stop <| ?_
            obtain rfl := Option.some.inj h
            exact hJ1 _ _ rfl <| ImpX.lq [0, 0, 0, 0] rfl rfl rfl
        · refine have h := iteF hc h; ATodo.exit rfl <| have h := outL h hA1; ?_
          unfold Q_NotesRead_1x_k3 at h
          refine tSR <| rM rfl rfl <| bndE h fun v14 e7 h => ARun.qv (t_index_sl rfl rfl rfl e7) rfl <| ARun.qv (t_load_aptr (g := AV.str) rfl rfl (.inl .p2) e7 rfl) rfl <| bndE h fun v15 e8 h => r_callp rfl (Q_Unquoted_c e8) (CoL.refl _) rfl <| rM rfl rfl <| rX rfl rfl rfl <| rX rfl rfl rfl <| rA rfl rfl <| rA rfl rfl <| rN <| tS <| tSR <| rM rfl rfl <| bndE h fun v16 e9 h => ARun.qv (t_index_sl rfl rfl rfl e9) rfl <| ARun.qv (t_load_aptr (g := AV.str) rfl rfl (.inl .p2) e9 rfl) rfl <| ARun.qv (q_seq rfl rfl) rfl <| rN <| ATodo.cut (fun σ' => ∃ (l17 : List Str), Q_NotesRead_1x_j2 p1x0 l9 v15 l17 = some r ∧ σ' = ⟨75, [(1, .ptr b_1 0), (4, .sl 1 b2 0 l17.length), (5, .ptr b6 0), (8, .str v15.1), (9, .bool v15.2)], [(b_1, .cells [.sl 9 b_1x0 0 p1x0.length]), (b_1x0, .arr 9 (p1x0.map Note.av)), (b2, .arr 1 (l17.map AV.str)), (b6, .arr 1 (l9.map I))]⟩) ?_ ?_
          · refine ATodo.cond_d rfl (fun hc => ?_) (fun hc => ?_)
            · exact have h := iteT hc h; tR <| rM rfl rfl <| bndE h fun v18 e10 h => ARun.qv (t_index_sl rfl rfl rfl e10) rfl <| t_store_aptr1 (g := AV.str) (el' := ([] : Str)) rfl rfl rfl rfl e10 rfl .p2 rfl <| ARun.ghost <| ImpX.eqs (s := 4) (av' := .sl 1 b2 0 (v1.set (1 : Int).toNat ([] : Str)).length) rfl (by rw [List.length_set]) <| ImpX.here <| ARun.ghost <| ImpX.eqs (s := 38) (av' := .sl 1 b2 0 (v1.set (1 : Int).toNat ([] : Str)).length) rfl (by rw [List.length_set]) <| ImpX.here <| ARun.ghost <| ImpX.eqs (s := 44) (av' := .sl 1 b2 0 (v1.set (1 : Int).toNat ([] : Str)).length) rfl (by rw [List.length_set]) <| ImpX.here <| ARun.ghost <| ImpX.eqs (s := 48) (av' := .sl 1 b2 0 (v1.set (1 : Int).toNat ([] : Str)).length) rfl (by rw [List.length_set]) <| ImpX.here <| rN <| ATodo.stop <| ImpX.lq [0, 0, 0, 0] ⟨v1.set (1 : Int).toNat ([] : Str), h, rfl⟩ rfl rfl
            · exact have h := iteF hc h; tK <| ATodo.stop <| ImpX.lq [0, 0, 0, 0] ⟨v1, h, rfl⟩ rfl rfl
          · rintro σ' ⟨l17, h, rfl⟩
            unfold Q_NotesRead_1x_j2 at h
            refine tS <| ATodo.regionM (id := 16) (A := [0, 0, 2, 6, 0, 16, 48, 0, 0, 256, 0, 1024, 0, 4096, 16382, 0, 32768, 0, 131072, 0, 524288, 2097150, 4194302, 8388607, 16777215]) 23 mixed rfl (by kernel_rfl) (by kernel_rfl) <| AM.qv (q_load_ptr rfl rfl .p0 rfl) rfl <| AM.qv (q_move rfl) rfl <| bndE h fun v19 e11 h => AM.qv (t_index_sl rfl rfl rfl e11) rfl <| AM.qv (t_load_aptr (g := AV.str) rfl rfl (.inl .p2) e11 rfl) rfl <| AM.qv (q_move rfl) rfl <| bndE h fun v20 e12 h => AM.qv (t_index_sl rfl rfl rfl e12) rfl <| AM.qv (t_load_aptr (g := AV.str) rfl rfl (.inl .p2) e12 rfl) rfl <| AM.qv (q_move rfl) rfl <| bndE h fun v21 e13 h => AM.qv (t_index_ar rfl rfl rfl e13) rfl <| AM.qv (t_load_aptr (g := I) rfl rfl (.inl .p3) (idxA_some e13).2 rfl) rfl <| bndE h fun v22 e14 h => AM.qv (t_index_ar rfl rfl rfl e14) rfl <| AM.qv (t_load_aptr (g := I) rfl rfl (.inl .p3) (idxA_some e14).2 rfl) rfl <| bndE h fun v23 e15 h => AM.qv (t_index_ar rfl rfl rfl e15) rfl <| AM.qv (t_load_aptr (g := I) rfl rfl (.inl .p3) (idxA_some e15).2 rfl) rfl <| AM.qv (n_build rfl rfl rfl rfl rfl) rfl <| bndE h fun v24 e16 h => AM.qv (t_index_ar rfl rfl rfl e16) rfl <| AM.qv (t_load_aptr (g := I) rfl rfl (.inl .p3) (idxA_some e16).2 rfl) rfl <| bndE h fun v25 e17 h => AM.qv (t_index_ar rfl rfl rfl e17) rfl <| AM.qv (t_load_aptr (g := I) rfl rfl (.inl .p3) (idxA_some e17).2 rfl) rfl <| bndE h fun v26 e18 h => AM.qv (t_index_ar rfl rfl rfl e18) rfl <| AM.qv (t_load_aptr (g := I) rfl rfl (.inl .p3) (idxA_some e18).2 rfl) rfl <| AM.qv (n_build rfl rfl rfl rfl rfl) rfl <| AM.buildSliceL (xs := ([(⟨(⟨v19, v20, v15.1, v21, v22, v23⟩ : Letter), v24, v25, v26⟩ : Note)]).map Note.av) rfl rfl rfl rfl rfl rfl <| AM.nil <| bndE h fun l27 e19 h => t_append (g := Note.av) rfl rfl rfl rfl rfl rfl rfl rfl (.list _) e19 (fun _ => .p1) rfl fun b28 => n_store_ptr rfl rfl rfl rfl .p0 rfl rfl <| rN <| tSR <| rM rfl rfl <| rA rfl rfl <| rN <| ATodo.ret <| ?_
            obtain rfl := Option.some.inj h
            exact ImpX.here ⟨_, .cons (.tmp _ _ rfl) .nil, _, .cons .p0 (.cons .p0 .nil), ⟨b28, rfl, rfl⟩⟩

set_option maxHeartbeats 4000000 in
theorem Q_Lines_f1x_Q_NotesRead_1x_c {b_2 : Bk} {b_2x0 : Bk} {p0x0 : Str} {p2x0 : List Note} {r : Int × Bool × (List Note)} (h : Q_Lines_f1x_Q_NotesRead_1x p0x0 p2x0 = some r) : ACall Tryz.prog 69 [.str p0x0, .func (.func 91) [.ptr b_2 0]] [(b_2, .cells [.sl 9 b_2x0 0 p2x0.length]), (b_2x0, .arr 9 (p2x0.map Note.av))] (T1 (fun c_2x0 => [(b_2, .cells [.sl 9 c_2x0 0 r.2.2.length]), (c_2x0, .arr 9 (r.2.2.map Note.av))]) (fun c_2x0 => .tup [I r.1, .bool r.2.1])) := by
  unfold Q_Lines_f1x_Q_NotesRead_1x at h
  refine ACall.lessH ?_
  refine ACall.bodyN Tryz.func69 rfl Tryz.ntmps69 Tryz.results69 rfl rfl ?_
  refine tSR <| rA rfl rfl <| rA rfl rfl <| rN <| tS <| tSR <| rA rfl rfl <| rN <| ATodo.block <| ATodo.loopI (fun x : (List Note) × Str × Int => Q_Lines_f1x_Q_NotesRead_1x_b1 x.1 x.2.1 x.2.2) (fun x σ' => ∃ (b5 : Bk), σ' = ⟨30, [(0, .str x.2.1), (1, .func (.func 91) [.ptr b_2 0]), (6, I x.2.2)], [(b_2, .cells [.sl 9 b5 0 x.1.length]), (b5, .arr 9 (x.1.map Note.av))]⟩) h ?_ ?_
  · exact ImpX.lq [0, 0] ⟨b_2x0, rfl⟩ rfl rfl
  · intro x z1 σ' J1 hmk h hJ1 hA1
    obtain ⟨l6, q7, n8⟩ := x
    obtain ⟨b5, rfl⟩ := hmk
    replace h : Q_Lines_f1x_Q_NotesRead_1x_b1 l6 q7 n8 = some z1 := h
    unfold Q_Lines_f1x_Q_NotesRead_1x_b1 at h
    refine tS <| tSR <| rM rfl rfl <| ARun.qv (q_sne rfl rfl) rfl <| rN <| ATodo.cond_d rfl (fun hc => ?_) (fun hc => ?_)
    · refine have h := iteT hc h; tK <| tS <| ATodo.block <| tSR <| rM rfl rfl <| bndE h fun v9 e1 h => r_callp rfl (strings_Cut_c e1) (CoL.refl _) rfl <| rM rfl rfl <| rX rfl rfl rfl <| rX rfl rfl rfl <| rX rfl rfl rfl <| rA rfl rfl <| rA rfl rfl <| rA rfl rfl <| rN <| tS <| tS <| ATodo.cut (fun σ' => ∃ (b10 : Bk) (l11 : List Note) (c12 : Bool), Q_Lines_f1x_Q_NotesRead_1x_j1 n8 v9 l11 c12 = some z1 ∧ σ' = ⟨30, [(1, .func (.func 91) [.ptr b_2 0]), (6, I n8), (8, .str v9.2.1), (27, .bool c12)], [(b_2, .cells [.sl 9 b10 0 l11.length]), (b10, .arr 9 (l11.map Note.av))]⟩) ?_ ?_
      · refine tR <| rM rfl rfl <| ARun.qv (q_not rfl) rfl <| rM rfl rfl <| ARun.guard rfl rfl rfl (fun hc => ?_) (fun hc => ?_)
        · exact have h := iteFb hc h; rM rfl rfl <| rY rfl rfl rfl <| rM rfl rfl <| rY rfl rfl rfl <| bndE h fun v13 e2 h => t_callv1 rfl rfl rfl (Q_NotesRead_1x_c e2) (CoL.refl _) (.cons .p0 (.cons .p0 .nil)) (fun _ => rfl) rfl fun b14 => rY rfl rfl rfl <| ARun.qv (q_not rfl) rfl <| rE rfl rfl rfl <| rN <| ATodo.stop <| ImpX.lq [0, 0] ⟨b14, v13.2, !v13.1, h, rfl⟩ rfl rfl
        · exact have h := iteT hc h; rG rfl rfl rfl rfl <| rG rfl rfl rfl rfl <| rG rfl rfl rfl rfl <| rT rfl rfl rfl <| rN <| ATodo.stop <| ImpX.lq [0, 0] ⟨b5, l6, true, h, rfl⟩ rfl rfl
      · rintro σ' ⟨b10, l11, c12, h, rfl⟩
        unfold Q_Lines_f1x_Q_NotesRead_1x_j1 at h
        refine ATodo.cond rfl (fun hc => ?_) (fun hc => ?_)
        · refine have h := iteT hc h; tSR <| rM rfl rfl <| rA rfl rfl <| rA rfl rfl <| rN <| ATodo.ret <| have h := outL h hA1; ?_
          obtain rfl := Option.some.inj h
          exact ImpX.here ⟨_, .cons (.tmp _ _ rfl) (.cons (.tmp _ _ rfl) .nil), _, .cons .p0 (.cons .p0 .nil), ⟨b10, rfl, rfl⟩⟩
        · refine have h := iteFb hc h; tK <| tR <| rM rfl rfl <| rA rfl rfl <| rN <| ATodo.blk <| tR <| rM rfl rfl <| ARun.qv (q_addw rfl rfl) rfl <| rA rfl rfl <| rN <| ATodo.stop <| ?_
          obtain rfl := Option.some.inj h
          exact hJ1 _ _ rfl <| ImpX.lq [0, 0] ⟨b10, rfl⟩ rfl rfl
    · refine have h := iteF hc h; ATodo.exit rfl <| have h := outL h hA1; tSR <| rA rfl rfl <| rA rfl rfl <| rN <| ATodo.ret <| ?_
      obtain rfl := Option.some.inj h
      exact ImpX.here ⟨_, .cons (.tmp _ _ rfl) (.cons (.tmp _ _ rfl) .nil), _, .cons .p0 (.cons .p0 .nil), ⟨b5, rfl, rfl⟩⟩

set_option maxHeartbeats 4000000 in
theorem Q_NotesRead_c {p0x0 : Str} {r : (List Note) × Int × Int} (h : Q_NotesRead p0x0 = some r) : ACall Tryz.prog 32 [.str p0x0] [] (T1 (fun d_0 => [(d_0, .arr 9 (r.1.map Note.av))]) (fun d_0 => .tup [.sl 9 d_0 0 r.1.length, I r.2.1, I r.2.2])) := by
  unfold Q_NotesRead at h
  refine ACall.lessH ?_
  refine ACall.bodyN Tryz.func32 rfl Tryz.ntmps32 Tryz.results32 rfl rfl ?_
  refine tSR <| rA rfl rfl <| rA rfl rfl <| rA rfl rfl <| rN <| tS <| tSR <| rM rfl rfl <| ARun.qv (q_len_str rfl) rfl <| ARun.qv (q_gtr rfl rfl) rfl <| rN <| ATodo.cond_d rfl (fun hc => ?_) (fun hc => ?_)
  · refine have h := iteT hc h; tSR <| rA rfl rfl <| rA rfl rfl <| rA rfl rfl <| rN <| ATodo.ret <| ?_
    obtain rfl := Option.some.inj h
    exact ImpX.arr (s := 2) 9 rfl fun b1 => ImpX.here ⟨_, .cons (.tmp _ _ rfl) (.cons (.tmp _ _ rfl) (.cons (.tmp _ _ rfl) .nil)), _, .cons .p0 .nil, ⟨b1, rfl, rfl⟩⟩
  · refine have h := iteF hc h; tK <| tSR <| n_alloc rfl rfl rfl rfl fun b2 => rN <| tSR <| rM rfl rfl <| ARun.qv (q_makeFunc rfl) rfl <| bndE h fun v3 e1 h => ARun.ghost <| ImpX.arrBox (j := 0) 9 (fun _ => .p0) rfl (fun _ => rfl) (fun _ => rfl) fun b4 => ImpX.here <| t_call1 rfl (Q_Lines_f1x_Q_NotesRead_1x_c e1) (CoL.refl _) (.cons .p1 (.cons .p0 .nil)) (fun _ => rfl) rfl fun b5 => rM rfl rfl <| rX rfl rfl rfl <| rX rfl rfl rfl <| rA rfl rfl <| rA rfl rfl <| rN <| tS <| tSR <| rM rfl rfl <| ARun.qv (q_not rfl) rfl <| rN <| ATodo.cond rfl (fun hc => ?_) (fun hc => ?_)
    · refine have h := iteT hc h; tSR <| rM rfl rfl <| rA rfl rfl <| rA rfl rfl <| rA rfl rfl <| rN <| ATodo.ret <| ?_
      obtain rfl := Option.some.inj h
      exact ImpX.arr (s := 2) 9 rfl fun b6 => ImpX.here ⟨_, .cons (.tmp _ _ rfl) (.cons (.tmp _ _ rfl) (.cons (.tmp _ _ rfl) .nil)), _, .cons .p0 .nil, ⟨b6, rfl, rfl⟩⟩
    · refine have h := iteFb hc h; tK <| tS <| tSR <| rL rfl rfl .p0 rfl rfl <| bndE h fun v7 e2 h => r_callpB rfl (Q_NotesFault_c e2) (.cons (CoB.arrT .p1) .nil) rfl rfl <| rA rfl rfl <| rN <| tSR <| rM rfl rfl <| ARun.qv (q_neq rfl rfl) rfl <| rN <| ATodo.cond_d rfl (fun hc => ?_) (fun hc => ?_)
      · refine have h := iteT hc h; tSR <| rM rfl rfl <| rA rfl rfl <| rA rfl rfl <| rA rfl rfl <| rN <| ATodo.ret <| ?_
        obtain rfl := Option.some.inj h
        exact ImpX.arr (s := 2) 9 rfl fun b8 => ImpX.here ⟨_, .cons (.tmp _ _ rfl) (.cons (.tmp _ _ rfl) (.cons (.tmp _ _ rfl) .nil)), _, .cons .p0 .nil, ⟨b8, rfl, rfl⟩⟩
      · refine have h := iteF hc h; tK <| tSR <| rL rfl rfl .p0 rfl rfl <| rA rfl rfl <| rA rfl rfl <| rA rfl rfl <| rN <| ATodo.ret <| ?_
        obtain rfl := Option.some.inj h
        exact ImpX.here ⟨_, .cons (.tmp _ _ rfl) (.cons (.tmp _ _ rfl) (.cons (.tmp _ _ rfl) .nil)), _, .cons .p1 .nil, ⟨b5, rfl, rfl⟩⟩

set_option maxHeartbeats 4000000 in
theorem slices_Equal_Note_Note_c [GI : GTab] {p0x0 : List Note} {p1x0 : List Note} {r : Bool} (h : slices_Equal_Note_Note p0x0 p1x0 = some r) : Pu Tryz.prog 33 [.list 9 (p0x0.map Note.av), .list 9 (p1x0.map Note.av)] (.bool r) := by
  unfold slices_Equal_Note_Note at h
  refine ACall.bodyN Tryz.func33 rfl Tryz.ntmps33 Tryz.results33 rfl rfl ?_
  refine tSR <| rA rfl rfl <| rN <| tS <| tSR <| rM rfl rfl <| ARun.qv (t_len rfl) rfl <| rM rfl rfl <| ARun.qv (t_len rfl) rfl <| ARun.qv (q_neq rfl rfl) rfl <| rN <| ATodo.cond_d rfl (fun hc => ?_) (fun hc => ?_)
  · refine have h := iteT hc h; tSR <| rA rfl rfl <| rN <| ATodo.ret <| ?_
    obtain rfl := Option.some.inj h
    exact ImpX.here ⟨_, .cons (.tmp _ _ rfl) .nil, rfl⟩
  · refine have h := iteF hc h; tK <| tS <| tSR <| rM rfl rfl <| ARun.qv (t_len rfl) rfl <| rM rfl rfl <| rN <| ATodo.block <| ATodo.loopI (fun x : Int => slices_Equal_Note_Note_b1 p0x0 p1x0 x) (fun x σ' => σ' = ⟨26, [(0, .list 9 (p0x0.map Note.av)), (1, .list 9 (p1x0.map Note.av)), (12, I (p0x0.length : Int)), (13, I x)], []⟩) h ?_ ?_
    · exact ImpX.lq [] rfl rfl rfl
    · intro n2 z1 σ' J1 hmk h hJ1 hA1
      obtain rfl := hmk
      replace h : slices_Equal_Note_Note_b1 p0x0 p1x0 n2 = some z1 := h
      unfold slices_Equal_Note_Note_b1 at h
      refine tSR <| ARun.qv (q_lss rfl rfl) rfl <| rN <| tS <| ATodo.cond_d rfl (fun hc => ?_) (fun hc => ?_)
      · refine have h := iteT hc h; tK <| tS <| ATodo.block <| tSR <| rM rfl rfl <| rA rfl rfl <| rN <| tS <| ATodo.regionM (id := 6) (A := [0, 0, 3, 7, 0, 0, 48, 112, 255]) 9 mixed rfl (by kernel_rfl) (by kernel_rfl) <| AM.qv (q_move rfl) rfl <| AM.qv (q_move rfl) rfl <| bndE h fun v3 e1 h => AM.qv (t_index rfl rfl rfl e1 rfl rfl) rfl <| AM.qv (q_load_rptr_agg rfl rfl rfl) rfl <| AM.qv (q_move rfl) rfl <| AM.qv (q_move rfl) rfl <| bndE h fun v4 e2 h => AM.qv (t_index rfl rfl rfl e2 rfl rfl) rfl <| AM.qv (q_load_rptr_agg rfl rfl rfl) rfl <| AM.qv (t_tne (g := Note.av) (X := v3) (Y := v4) rfl rfl rfl rfl rfl) rfl <| AM.nil <| rN <| ATodo.cond_d rfl (fun hc => ?_) (fun hc => ?_)
        · refine have h := iteT hc h; tSR <| rA rfl rfl <| rN <| ATodo.ret <| have h := outL h hA1; ?_
          obtain rfl := Option.some.inj h
          exact ImpX.here ⟨_, .cons (.tmp _ _ rfl) .nil, rfl⟩
        · refine have h := iteF hc h; tK <| ATodo.blk <| tR <| ARun.qv (q_addw rfl rfl) rfl <| rM rfl rfl <| rN <| ATodo.stop <| ?_
          obtain rfl := Option.some.inj h
          exact hJ1 _ _ rfl <| ImpX.lq [] rfl rfl rfl
      · refine have h := iteF hc h; ATodo.exit rfl <| have h := outL h hA1; tSR <| rA rfl rfl <| rN <| ATodo.ret <| ?_
        obtain rfl := Option.some.inj h
        exact ImpX.here ⟨_, .cons (.tmp _ _ rfl) .nil, rfl⟩

set_option maxHeartbeats 4000000 in
theorem command_CheckPost_c [GI : GTab] {p0x0 : Post} {r : Int} (h : command_CheckPost p0x0 = r) : Pu Tryz.prog 144 [.agg [I p0x0.Room, I p0x0.Timeout, I p0x0.Tries, I p0x0.Kept]] (I r) := by
  unfold command_CheckPost at h
  refine ACall.bodyN Tryz.func144 rfl Tryz.ntmps144 Tryz.results144 rfl rfl ?_
  refine tSR <| n_box rfl rfl rfl rfl fun b1 => rA rfl rfl <| rN <| tS <| tS <| ATodo.cut (fun σ' => ∃ (c2 : Bool), command_CheckPost_j1 c2 = r ∧ σ' = ⟨21, [(20, .bool c2)], []⟩) ?_ ?_
  · refine tR <| rF rfl rfl rfl <| rL rfl rfl .p0 rfl rfl <| r_callp rfl (base_Out_c rfl) (CoL.refl _) rfl <| rM rfl rfl <| ARun.guard rfl rfl rfl (fun hc => ?_) (fun hc => ?_)
    · rw [orFb hc] at h
      refine rF rfl rfl rfl <| rY rfl rfl rfl <| rL rfl rfl .p0 rfl rfl <| rY rfl rfl rfl <| r_callp rfl (base_Out_c rfl) (CoL.refl _) rfl <| rE rfl rfl rfl <| rM rfl rfl <| ARun.guard rfl rfl rfl (fun hc => ?_) (fun hc => ?_)
      · rw [orFb hc] at h
        refine rF rfl rfl rfl <| rY rfl rfl rfl <| rL rfl rfl .p0 rfl rfl <| rY rfl rfl rfl <| r_callp rfl (base_Out_c rfl) (CoL.refl _) rfl <| rE rfl rfl rfl <| rM rfl rfl <| ARun.guard rfl rfl rfl (fun hc => ?_) (fun hc => ?_)
        · rw [orFb hc] at h
          exact rF rfl rfl rfl <| rY rfl rfl rfl <| rL rfl rfl .p0 rfl rfl <| rY rfl rfl rfl <| r_callp rfl (base_Out_c rfl) (CoL.refl _) rfl <| rE rfl rfl rfl <| rN <| ATodo.stop <| ImpX.lq [] ⟨(base_Out p0x0.Kept (0 : Int) (1000 : Int)), h, rfl⟩ rfl rfl
        · rw [orTb hc] at h
          exact rG rfl rfl rfl rfl <| rG rfl rfl rfl rfl <| rT rfl rfl rfl <| rN <| ATodo.stop <| ImpX.lq [] ⟨true, h, rfl⟩ rfl rfl
      · rw [orTb hc] at h
        exact rG rfl rfl rfl rfl <| rG rfl rfl rfl rfl <| rT rfl rfl rfl <| rM rfl rfl <| rG rfl rfl rfl rfl <| rG rfl rfl rfl rfl <| rG rfl rfl rfl rfl <| rT rfl rfl rfl <| rN <| ATodo.stop <| ImpX.lq [] ⟨true, h, rfl⟩ rfl rfl
    · rw [orTb hc] at h
      exact rG rfl rfl rfl rfl <| rG rfl rfl rfl rfl <| rT rfl rfl rfl <| rM rfl rfl <| rG rfl rfl rfl rfl <| rG rfl rfl rfl rfl <| rG rfl rfl rfl rfl <| rT rfl rfl rfl <| rM rfl rfl <| rG rfl rfl rfl rfl <| rG rfl rfl rfl rfl <| rG rfl rfl rfl rfl <| rT rfl rfl rfl <| rN <| ATodo.stop <| ImpX.lq [] ⟨true, h, rfl⟩ rfl rfl
  · rintro σ' ⟨c2, h, rfl⟩
    unfold command_CheckPost_j1 at h
    refine ATodo.cond rfl (fun hc => ?_) (fun hc => ?_)
    · refine have h := iteT hc h; tSR <| rA rfl rfl <| rN <| ATodo.ret <| ?_
      obtain rfl := h
      exact ImpX.here ⟨_, .cons (.tmp _ _ rfl) .nil, rfl⟩
    · refine have h := iteFb hc h; tK <| tSR <| rA rfl rfl <| rN <| ATodo.ret <| ?_
      obtain rfl := h
      exact ImpX.here ⟨_, .cons (.tmp _ _ rfl) .nil, rfl⟩

set_option maxHeartbeats 4000000 in
theorem command_New_c [GI : GTab] {p0x0 : Post} {r : (Option Command_Office) × Int} (h : command_New p0x0 = r) : ACall Tryz.prog 94 [.agg [I p0x0.Room, I p0x0.Timeout, I p0x0.Tries, I p0x0.Kept]] [] (TM r.1 (T0 ([]) (.tup [.raw (.pointer none), I r.2])) (fun x => T2 (fun d_0 d_0x4 => [(d_0, .cells [I x.post_.Room, I x.post_.Timeout, I x.post_.Tries, I x.post_.Kept, .mref d_0x4, I x.time_]), (d_0x4, .mp (x.notes_.map (fun e => (AV.str e.1, Note.av e.2))))]) (fun d_0 d_0x4 => .tup [.ptr d_0 0, I r.2]))) := by
  unfold command_New at h
  refine ACall.lessH ?_
  refine ACall.bodyN Tryz.func94 rfl Tryz.ntmps94 Tryz.results94 rfl rfl ?_
  refine tSR <| n_box rfl rfl rfl rfl fun b1 => rA rfl rfl <| rA rfl rfl <| rN <| tS <| tSR <| ARun.qv (q_load_ptr_all rfl rfl .p0 rfl) rfl <| r_callp rfl (command_CheckPost_c rfl) (CoL.refl _) rfl <| rA rfl rfl <| rN <| tSR <| rM rfl rfl <| ARun.qv (q_neq rfl rfl) rfl <| rN <| ATodo.cond_d rfl (fun hc => ?_) (fun hc => ?_)
  · refine have h := iteT hc h; tSR <| rM rfl rfl <| rA rfl rfl <| rA rfl rfl <| rN <| ATodo.ret <| ?_
    obtain rfl := h
    exact ImpX.here ⟨_, .cons (.tmp _ _ rfl) (.cons (.tmp _ _ rfl) .nil), _, .nil, ⟨rfl, rfl⟩⟩
  · refine have h := iteF hc h; tK <| tSR <| ARun.qv (q_load_ptr_all rfl rfl .p0 rfl) rfl <| t_makeMap rfl fun b2 => ARun.qv (n_build rfl rfl rfl rfl rfl) rfl <| n_box rfl rfl rfl rfl fun b3 => rA rfl rfl <| rA rfl rfl <| rN <| ATodo.ret <| ?_
    obtain rfl := h
    exact ImpX.here ⟨_, .cons (.tmp _ _ rfl) (.cons (.tmp _ _ rfl) .nil), _, .cons .p0 (.cons .p0 .nil), ⟨b3, b2, rfl, rfl⟩⟩

set_option maxHeartbeats 4000000 in
theorem command_Office_timeFault_c [GI : GTab] {b_0 : Bk} {b_0x4 : Bk} {p0x0 : Command_Office} {p1x0 : Int} {r : Int} (h : command_Office_timeFault p0x0 p1x0 = r) : ACall Tryz.prog 146 [.ptr b_0 0, I p1x0] [(b_0, .cells [I p0x0.post_.Room, I p0x0.post_.Timeout, I p0x0.post_.Tries, I p0x0.post_.Kept, .mref b_0x4, I p0x0.time_])] (T0 ([(b_0, .cells [I p0x0.post_.Room, I p0x0.post_.Timeout, I p0x0.post_.Tries, I p0x0.post_.Kept, .mref b_0x4, I p0x0.time_])]) (I r)) := by
  unfold command_Office_timeFault at h
  refine ACall.lessH ?_
  refine ACall.bodyN Tryz.func146 rfl Tryz.ntmps146 Tryz.results146 rfl rfl ?_
  refine tSR <| rA rfl rfl <| rN <| tS <| ATodo.block <| tSR <| rM rfl rfl <| r_callp rfl (base_Moment_c rfl) (CoL.refl _) rfl <| ARun.qv (q_not rfl) rfl <| rA rfl rfl <| rN <| ATodo.cond rfl (fun hc => ?_) (fun hc => ?_)
  · refine have h := iteT hc h; tSR <| rA rfl rfl <| rN <| ATodo.ret <| ?_
    obtain rfl := h
    exact ImpX.here ⟨_, .cons (.tmp _ _ rfl) .nil, _, .cons .p0 .nil, ⟨rfl, rfl⟩⟩
  · refine have h := iteFb hc h; tSR <| rM rfl rfl <| rM rfl rfl <| ARun.qv (q_nilCheck_ptr rfl) rfl <| rF rfl rfl rfl <| rL rfl rfl .p0 rfl rfl <| ARun.qv (q_lss rfl rfl) rfl <| rA rfl rfl <| rN <| ATodo.cond_d rfl (fun hc => ?_) (fun hc => ?_)
    · refine have h := iteT hc h; tSR <| rA rfl rfl <| rN <| ATodo.ret <| ?_
      obtain rfl := h
      exact ImpX.here ⟨_, .cons (.tmp _ _ rfl) .nil, _, .cons .p0 .nil, ⟨rfl, rfl⟩⟩
    · refine have h := iteF hc h; tK <| ATodo.blk <| tSR <| rA rfl rfl <| rN <| ATodo.ret <| ?_
      obtain rfl := h
      exact ImpX.here ⟨_, .cons (.tmp _ _ rfl) .nil, _, .cons .p0 .nil, ⟨rfl, rfl⟩⟩

set_option maxHeartbeats 4000000 in
theorem base_First_c [GI : GTab] {p0x0 : List Int} {r : Int} (h : base_First p0x0 = some r) : Pu Tryz.prog 145 [.list 1 (p0x0.map I)] (I r) := by
  unfold base_First at h
  refine ACall.bodyN Tryz.func145 rfl Tryz.ntmps145 Tryz.results145 rfl rfl ?_
  refine tSR <| rA rfl rfl <| rN <| tS <| tSR <| rM rfl rfl <| ARun.qv (t_len rfl) rfl <| rM rfl rfl <| rN <| ATodo.block <| ATodo.loopI (fun x : Int => base_First_b1 p0x0 x) (fun x σ' => σ' = ⟨15, [(5, .list 1 (p0x0.map I)), (6, I (p0x0.length : Int)), (7, I x)], []⟩) h ?_ ?_
  · exact ImpX.lq [] rfl rfl rfl
  · intro n2 z1 σ' J1 hmk h hJ1 hA1
    obtain rfl := hmk
    replace h : base_First_b1 p0x0 n2 = some z1 := h
    unfold base_First_b1 at h
    refine tSR <| ARun.qv (q_lss rfl rfl) rfl <| rN <| tS <| ATodo.cond_d rfl (fun hc => ?_) (fun hc => ?_)
    · refine have h := iteT hc h; tK <| tS <| ATodo.block <| tSR <| bndE h fun v3 e1 h => ARun.qv (t_index rfl rfl rfl e1 rfl rfl) rfl <| ARun.qv (q_load_rptr rfl rfl rfl) rfl <| rA rfl rfl <| rN <| tSR <| rM rfl rfl <| ARun.qv (q_neq rfl rfl) rfl <| rN <| ATodo.cond_d rfl (fun hc => ?_) (fun hc => ?_)
      · refine have h := iteT hc h; tSR <| rM rfl rfl <| rA rfl rfl <| rN <| ATodo.ret <| have h := outL h hA1; ?_
        obtain rfl := Option.some.inj h
        exact ImpX.here ⟨_, .cons (.tmp _ _ rfl) .nil, rfl⟩
      · refine have h := iteF hc h; tK <| ATodo.blk <| tR <| ARun.qv (q_addw rfl rfl) rfl <| rM rfl rfl <| rN <| ATodo.stop <| ?_
        obtain rfl := Option.some.inj h
        exact hJ1 _ _ rfl <| ImpX.lq [] rfl rfl rfl
    · refine have h := iteF hc h; ATodo.exit rfl <| have h := outL h hA1; tSR <| rA rfl rfl <| rN <| ATodo.ret <| ?_
      obtain rfl := Option.some.inj h
      exact ImpX.here ⟨_, .cons (.tmp _ _ rfl) .nil, rfl⟩

set_option maxHeartbeats 4000000 in
theorem command_ended_c [GI : GTab] {p0x0 : Int} {r : Bool} (h : command_ended p0x0 = r) : Pu Tryz.prog 195 [I p0x0] (.bool r) := by
  unfold command_ended at h
  refine ACall.bodyN Tryz.func195 rfl Tryz.ntmps195 Tryz.results195 rfl rfl ?_
  refine tSR <| rA rfl rfl <| rN <| tSR <| rM rfl rfl <| ARun.qv (q_geq rfl rfl) rfl <| rA rfl rfl <| rN <| ATodo.ret <| ?_
  obtain rfl := h
  exact ImpX.here ⟨_, .cons (.tmp _ _ rfl) .nil, rfl⟩

set_option maxHeartbeats 4000000 in
theorem command_Office_turn_c [GI : GTab] {b_0 : Bk} {b_0x4 : Bk} {p0x0 : Command_Office} {p1x0 : Note} {r : Int} (h : command_Office_turn p0x0 p1x0 = r) : ACall Tryz.prog 234 [.ptr b_0 0, .agg [.str p1x0.Letter.Id, .str p1x0.Letter.Slot, .str p1x0.Letter.Body, I p1x0.Letter.Prio, I p1x0.Letter.At, I p1x0.Letter.Until, I p1x0.State, I p1x0.Tries, I p1x0.Since]] [(b_0, .cells [I p0x0.post_.Room, I p0x0.post_.Timeout, I p0x0.post_.Tries, I p0x0.post_.Kept, .mref b_0x4, I p0x0.time_])] (T0 ([(b_0, .cells [I p0x0.post_.Room, I p0x0.post_.Timeout, I p0x0.post_.Tries, I p0x0.post_.Kept, .mref b_0x4, I p0x0.time_])]) (I r)) := by
  unfold command_Office_turn at h
  refine ACall.lessH ?_
  refine ACall.bodyN Tryz.func234 rfl Tryz.ntmps234 Tryz.results234 rfl rfl ?_
  refine tSR <| n_box rfl rfl rfl rfl fun b1 => rA rfl rfl <| rN <| tS <| tSR <| rF rfl rfl rfl <| rL rfl rfl .p0 rfl rfl <| ARun.qv (q_eql rfl rfl) rfl <| rN <| ATodo.cond_d rfl (fun hc => ?_) (fun hc => ?_)
  · refine have h := iteT hc h; tS <| ATodo.regionM (id := 2) (A := [0, 1, 3, 0, 8, 0, 32, 96, 224, 480, 1016, 2047, 4095]) 13 mixed rfl (by kernel_rfl) (by kernel_rfl) <| AM.qv (n_field_ptr rfl rfl) rfl <| AM.qv (n_field_ptr rfl rfl) rfl <| AM.qv (q_load_ptr rfl rfl .p0 rfl) rfl <| AM.qv (n_field_ptr rfl rfl) rfl <| AM.qv (q_load_ptr rfl rfl .p0 rfl) rfl <| AM.qv (q_move rfl) rfl <| AM.qv (q_nilCheck_ptr rfl) rfl <| AM.qv (n_field_ptr rfl rfl) rfl <| AM.qv (n_field_ptr rfl rfl) rfl <| AM.qv (q_load_ptr rfl rfl .p1 rfl) rfl <| AM.qv (q_addw rfl rfl) rfl <| AM.qv (q_min rfl rfl) rfl <| AM.qv (q_assign rfl) rfl <| AM.nil <| rN <| ATodo.ret <| ?_
    obtain rfl := h
    exact ImpX.here ⟨_, .cons (.tmp _ _ rfl) .nil, _, .cons .p1 .nil, ⟨rfl, rfl⟩⟩
  · refine have h := iteF hc h; tK <| tSR <| rF rfl rfl rfl <| rF rfl rfl rfl <| rL rfl rfl .p0 rfl rfl <| rA rfl rfl <| rN <| ATodo.ret <| ?_
    obtain rfl := h
    exact ImpX.here ⟨_, .cons (.tmp _ _ rfl) .nil, _, .cons .p1 .nil, ⟨rfl, rfl⟩⟩

set_option maxHeartbeats 4000000 in
theorem command_Office_grown_c [GI : GTab] {b_0 : Bk} {b_0x4 : Bk} {p0x0 : Command_Office} {p1x0 : Note} {p2x0 : Int} {r : Note} (h : command_Office_grown p0x0 p1x0 p2x0 = some r) : ACall Tryz.prog 194 [.ptr b_0 0, .agg [.str p1x0.Letter.Id, .str p1x0.Letter.Slot, .str p1x0.Letter.Body, I p1x0.Letter.Prio, I p1x0.Letter.At, I p1x0.Letter.Until, I p1x0.State, I p1x0.Tries, I p1x0.Since], I p2x0] [(b_0, .cells [I p0x0.post_.Room, I p0x0.post_.Timeout, I p0x0.post_.Tries, I p0x0.post_.Kept, .mref b_0x4, I p0x0.time_])] (T0 ([(b_0, .cells [I p0x0.post_.Room, I p0x0.post_.Timeout, I p0x0.post_.Tries, I p0x0.post_.Kept, .mref b_0x4, I p0x0.time_])]) (.agg [.str r.Letter.Id, .str r.Letter.Slot, .str r.Letter.Body, I r.Letter.Prio, I r.Letter.At, I r.Letter.Until, I r.State, I r.Tries, I r.Since])) := by
  unfold command_Office_grown at h
  refine ACall.lessH ?_
  refine ACall.bodyN Tryz.func194 rfl Tryz.ntmps194 Tryz.results194 rfl rfl ?_
  refine tSR <| n_box rfl rfl rfl rfl fun b1 => n_alloc rfl rfl rfl rfl fun b2 => rN <| tS <| ATodo.cut (fun σ' => ∃ (n3 : Int) (n4 : Int), command_Office_grown_j1 p1x0 n3 n4 = some r ∧ σ' = ⟨39, [(4, .ptr b1 0), (6, .ptr b2 0)], [(b_0, .cells [I p0x0.post_.Room, I p0x0.post_.Timeout, I p0x0.post_.Tries, I p0x0.post_.Kept, .mref b_0x4, I p0x0.time_]), (b1, .cells [.str p1x0.Letter.Id, .str p1x0.Letter.Slot, .str p1x0.Letter.Body, I p1x0.Letter.Prio, I p1x0.Letter.At, I p1x0.Letter.Until, I n3, I p1x0.Tries, I n4]), (b2, .cells [.str [], .str [], .str [], I (0 : Int), I (0 : Int), I (0 : Int), I (0 : Int), I (0 : Int), I (0 : Int)])]⟩) ?_ ?_
  · refine ATodo.block <| ATodo.loopI (fun x : Int × Int => command_Office_grown_b1 p0x0 p1x0 p2x0 x.1 x.2) (fun x σ' => σ' = ⟨39, [(0, .ptr b_0 0), (2, I p2x0), (4, .ptr b1 0), (6, .ptr b2 0)], [(b_0, .cells [I p0x0.post_.Room, I p0x0.post_.Timeout, I p0x0.post_.Tries, I p0x0.post_.Kept, .mref b_0x4, I p0x0.time_]), (b1, .cells [.str p1x0.Letter.Id, .str p1x0.Letter.Slot, .str p1x0.Letter.Body, I p1x0.Letter.Prio, I p1x0.Letter.At, I p1x0.Letter.Until, I x.1, I p1x0.Tries, I x.2]), (b2, .cells [.str [], .str [], .str [], I (0 : Int), I (0 : Int), I (0 : Int), I (0 : Int), I (0 : Int), I (0 : Int)])]⟩) h ?_ ?_
    · exact ImpX.lq [2, 1, 0] rfl rfl rfl
    · intro x z1 σ' J1 hmk h hJ1 hA1
      obtain ⟨n7, n8⟩ := x
      obtain rfl := hmk
      replace h : command_Office_grown_b1 p0x0 p1x0 p2x0 n7 n8 = some z1 := h
      unfold command_Office_grown_b1 at h
      refine tS <| tSR <| rF rfl rfl rfl <| rL rfl rfl .p1 rfl rfl <| r_callp rfl (command_ended_c rfl) (CoL.refl _) rfl <| ARun.qv (q_not rfl) rfl <| rN <| ATodo.cond rfl (fun hc => ?_) (fun hc => ?_)
      · refine have h := iteT hc h; tK <| ATodo.block <| tSR <| rM rfl rfl <| ARun.qv (q_load_ptr_all rfl rfl .p1 rfl) rfl <| t_call0 rfl (command_Office_turn_c (rfl : command_Office_turn p0x0 (⟨p1x0.Letter, n7, p1x0.Tries, n8⟩ : Note) = _)) (CoL.refl _) (.cons .p0 .nil) rfl rfl <| rA rfl rfl <| rN <| tS <| tSR <| rM rfl rfl <| rM rfl rfl <| ARun.qv (q_gtr rfl rfl) rfl <| rN <| ATodo.cond_d rfl (fun hc => ?_) (fun hc => ?_)
        · exact have h := iteT hc h; ATodo.exit rfl <| have h := outL h hA1; ATodo.stop <| ImpX.lq [0, 0, 0] ⟨n7, n8, h, rfl⟩ rfl rfl
        · refine have h := iteF hc h; tK <| tSR <| rM rfl rfl <| rF rfl rfl rfl <| n_store_ptr rfl rfl rfl rfl .p1 rfl rfl <| rN <| ATodo.block <| tSR <| rM rfl rfl <| rF rfl rfl rfl <| rF rfl rfl rfl <| rL rfl rfl .p1 rfl rfl <| ARun.qv (q_eql rfl rfl) rfl <| rA rfl rfl <| rN <| ATodo.cut (fun σ' => ∃ (n9 : Int), command_Office_grown_j2 p0x0 p1x0 n7 n8 n9 = some z1 ∧ σ' = ⟨39, [(0, .ptr b_0 0), (2, I p2x0), (4, .ptr b1 0), (6, .ptr b2 0)], [(b_0, .cells [I p0x0.post_.Room, I p0x0.post_.Timeout, I p0x0.post_.Tries, I p0x0.post_.Kept, .mref b_0x4, I p0x0.time_]), (b1, .cells [.str p1x0.Letter.Id, .str p1x0.Letter.Slot, .str p1x0.Letter.Body, I p1x0.Letter.Prio, I p1x0.Letter.At, I p1x0.Letter.Until, I n9, I p1x0.Tries, I (command_Office_turn p0x0 (⟨p1x0.Letter, n7, p1x0.Tries, n8⟩ : Note))]), (b2, .cells [.str [], .str [], .str [], I (0 : Int), I (0 : Int), I (0 : Int), I (0 : Int), I (0 : Int), I (0 : Int)])]⟩) ?_ ?_
          · refine ATodo.cond_d rfl (fun hc => ?_) (fun hc => ?_)
            · exact have h := iteT hc h; tR <| rF rfl rfl rfl <| n_store_ptr rfl rfl rfl rfl .p1 rfl rfl <| rN <| ATodo.stop <| ImpX.lq [0, 0, 0] ⟨(5 : Int), h, rfl⟩ rfl rfl
            · refine have h := iteF hc h; tS <| ATodo.regionM (id := 8) (A := [0, 1, 0, 4, 12, 28, 60, 127, 255]) 9 mixed rfl (by kernel_rfl) (by kernel_rfl) <| AM.qv (n_field_ptr rfl rfl) rfl <| AM.qv (q_load_ptr rfl rfl .p1 rfl) rfl <| AM.qv (q_move rfl) rfl <| AM.qv (q_nilCheck_ptr rfl) rfl <| AM.qv (n_field_ptr rfl rfl) rfl <| AM.qv (n_field_ptr rfl rfl) rfl <| AM.qv (q_load_ptr rfl rfl .p0 rfl) rfl <| AM.qv (q_eql rfl rfl) rfl <| AM.qv (q_assign rfl) rfl <| AM.nil <| rN <| ATodo.cut (fun σ' => ∃ (n10 : Int), command_Office_grown_j3 p0x0 p1x0 n7 n8 n10 = some z1 ∧ σ' = ⟨39, [(0, .ptr b_0 0), (2, I p2x0), (4, .ptr b1 0), (6, .ptr b2 0)], [(b_0, .cells [I p0x0.post_.Room, I p0x0.post_.Timeout, I p0x0.post_.Tries, I p0x0.post_.Kept, .mref b_0x4, I p0x0.time_]), (b1, .cells [.str p1x0.Letter.Id, .str p1x0.Letter.Slot, .str p1x0.Letter.Body, I p1x0.Letter.Prio, I p1x0.Letter.At, I p1x0.Letter.Until, I n10, I p1x0.Tries, I (command_Office_turn p0x0 (⟨p1x0.Letter, n7, p1x0.Tries, n8⟩ : Note))]), (b2, .cells [.str [], .str [], .str [], I (0 : Int), I (0 : Int), I (0 : Int), I (0 : Int), I (0 : Int), I (0 : Int)])]⟩) ?_ ?_
              · refine ATodo.cond_d rfl (fun hc => ?_) (fun hc => ?_)
                · exact have h := iteT hc h; tR <| rF rfl rfl rfl <| n_store_ptr rfl rfl rfl rfl .p1 rfl rfl <| rN <| ATodo.stop <| ImpX.lq [0, 0, 0] ⟨(7 : Int), h, rfl⟩ rfl rfl
                · exact have h := iteF hc h; tR <| rF rfl rfl rfl <| n_store_ptr rfl rfl rfl rfl .p1 rfl rfl <| rN <| ATodo.stop <| ImpX.lq [0, 0, 0] ⟨(1 : Int), h, rfl⟩ rfl rfl
              · rintro σ' ⟨n10, h, rfl⟩
                unfold command_Office_grown_j3 at h
                exact ATodo.stop <| ImpX.lq [0, 0, 0] ⟨n10, h, rfl⟩ rfl rfl
          · rintro σ' ⟨n9, h, rfl⟩
            unfold command_Office_grown_j2 at h
            refine ATodo.blk <| ATodo.blk <| ATodo.stop <| ?_
            obtain rfl := Option.some.inj h
            exact hJ1 _ _ rfl <| ImpX.lq [0, 0, 0] rfl rfl rfl
      · exact have h := iteFb hc h; ATodo.exit rfl <| have h := outL h hA1; ATodo.stop <| ImpX.lq [0, 0, 0] ⟨n7, n8, h, rfl⟩ rfl rfl
  · rintro σ' ⟨n3, n4, h, rfl⟩
    unfold command_Office_grown_j1 at h
    refine tSR <| ARun.qv (q_load_ptr_all rfl rfl .p1 rfl) rfl <| n_store_ptr rfl rfl rfl rfl .p2 rfl rfl <| rN <| ATodo.ret <| ?_
    obtain rfl := Option.some.inj h
    exact ImpX.here ⟨_, .cons (.all _ _ _ _ _ _ rfl .p2 TUnder.h TInfo.h rfl rfl) .nil, _, .cons .p0 .nil, ⟨rfl, rfl⟩⟩

set_option maxHeartbeats 4000000 in
theorem cmp_isNaN_int_c [GI : GTab] {p0x0 : Int} {r : Bool} (h : cmp_isNaN_int p0x0 = r) : Pu Tryz.prog 211 [I p0x0] (.bool r) := by
  unfold cmp_isNaN_int at h
  refine ACall.bodyN Tryz.func211 rfl Tryz.ntmps211 Tryz.results211 rfl rfl ?_
  refine tSR <| rA rfl rfl <| rN <| tSR <| rM rfl rfl <| rM rfl rfl <| ARun.qv (q_neq rfl rfl) rfl <| rA rfl rfl <| rN <| ATodo.ret <| ?_
  obtain rfl := h
  exact ImpX.here ⟨_, .cons (.tmp _ _ rfl) .nil, rfl⟩

set_option maxHeartbeats 4000000 in
theorem cmp_Compare_int_c [GI : GTab] {p0x0 : Int} {p1x0 : Int} {r : Int} (h : cmp_Compare_int p0x0 p1x0 = r) : Pu Tryz.prog 169 [I p0x0, I p1x0] (I r) := by
  unfold cmp_Compare_int at h
  refine ACall.bodyN Tryz.func169 rfl Tryz.ntmps169 Tryz.results169 rfl rfl ?_
  refine tSR <| rA rfl rfl <| rN <| tSR <| rM rfl rfl <| r_callp rfl (cmp_isNaN_int_c rfl) (CoL.refl _) rfl <| rA rfl rfl <| rN <| tSR <| rM rfl rfl <| r_callp rfl (cmp_isNaN_int_c rfl) (CoL.refl _) rfl <| rA rfl rfl <| rN <| tS <| tSR <| rM rfl rfl <| rN <| ATodo.cond rfl (fun hc => ?_) (fun hc => ?_)
  · refine have h := iteT hc h; tS <| tSR <| rM rfl rfl <| rN <| ATodo.cond rfl (fun hc => ?_) (fun hc => ?_)
    · refine have h := iteT hc h; tSR <| rA rfl rfl <| rN <| ATodo.ret <| ?_
      obtain rfl := h
      exact ImpX.here ⟨_, .cons (.tmp _ _ rfl) .nil, rfl⟩
    · refine have h := iteFb hc h; tK <| tSR <| rA rfl rfl <| rN <| ATodo.ret <| ?_
      obtain rfl := h
      exact ImpX.here ⟨_, .cons (.tmp _ _ rfl) .nil, rfl⟩
  · refine have h := iteFb hc h; tK <| tS <| tSR <| rM rfl rfl <| rN <| ATodo.cond rfl (fun hc => ?_) (fun hc => ?_)
    · refine have h := iteT hc h; tSR <| rA rfl rfl <| rN <| ATodo.ret <| ?_
      obtain rfl := h
      exact ImpX.here ⟨_, .cons (.tmp _ _ rfl) .nil, rfl⟩
    · refine have h := iteFb hc h; tK <| tS <| tSR <| rM rfl rfl <| rM rfl rfl <| ARun.qv (q_lss rfl rfl) rfl <| rN <| ATodo.cond_d rfl (fun hc => ?_) (fun hc => ?_)
      · refine have h := iteT hc h; tSR <| rA rfl rfl <| rN <| ATodo.ret <| ?_
        obtain rfl := h
        exact ImpX.here ⟨_, .cons (.tmp _ _ rfl) .nil, rfl⟩
      · refine have h := iteF hc h; tK <| tS <| tSR <| rM rfl rfl <| rM rfl rfl <| ARun.qv (q_gtr rfl rfl) rfl <| rN <| ATodo.cond_d rfl (fun hc => ?_) (fun hc => ?_)
        · refine have h := iteT hc h; tSR <| rA rfl rfl <| rN <| ATodo.ret <| ?_
          obtain rfl := h
          exact ImpX.here ⟨_, .cons (.tmp _ _ rfl) .nil, rfl⟩
        · refine have h := iteF hc h; tK <| tSR <| rA rfl rfl <| rN <| ATodo.ret <| ?_
          obtain rfl := h
          exact ImpX.here ⟨_, .cons (.tmp _ _ rfl) .nil, rfl⟩

set_option maxHeartbeats 4000000 in
theorem cmp_Or_int_c [GI : GTab] {p0x0 : List Int} {r : Int} (h : cmp_Or_int p0x0 = some r) : Pu Tryz.prog 168 [.list 1 (p0x0.map I)] (I r) := by
  unfold cmp_Or_int at h
  refine ACall.bodyN Tryz.func168 rfl Tryz.ntmps168 Tryz.results168 rfl rfl ?_
  refine tSR <| rA rfl rfl <| rN <| tSR <| rA rfl rfl <| rN <| tS <| tSR <| rM rfl rfl <| ARun.qv (t_len rfl) rfl <| rM rfl rfl <| rN <| ATodo.block <| ATodo.loopI (fun x : Int => cmp_Or_int_b1 p0x0 x) (fun x σ' => σ' = ⟨18, [(3, I (0 : Int)), (6, .list 1 (p0x0.map I)), (7, I (p0x0.length : Int)), (8, I x)], []⟩) h ?_ ?_
  · exact ImpX.lq [] rfl rfl rfl
  · intro n2 z1 σ' J1 hmk h hJ1 hA1
    obtain rfl := hmk
    replace h : cmp_Or_int_b1 p0x0 n2 = some z1 := h
    unfold cmp_Or_int_b1 at h
    refine tSR <| ARun.qv (q_lss rfl rfl) rfl <| rN <| tS <| ATodo.cond_d rfl (fun hc => ?_) (fun hc => ?_)
    · refine have h := iteT hc h; tK <| tS <| ATodo.block <| tSR <| bndE h fun v3 e1 h => ARun.qv (t_index rfl rfl rfl e1 rfl rfl) rfl <| ARun.qv (q_load_rptr rfl rfl rfl) rfl <| rA rfl rfl <| rN <| tSR <| rM rfl rfl <| rM rfl rfl <| ARun.qv (q_neq rfl rfl) rfl <| rN <| ATodo.cond_d rfl (fun hc => ?_) (fun hc => ?_)
      · refine have h := iteT hc h; tSR <| rM rfl rfl <| rA rfl rfl <| rN <| ATodo.ret <| have h := outL h hA1; ?_
        obtain rfl := Option.some.inj h
        exact ImpX.here ⟨_, .cons (.tmp _ _ rfl) .nil, rfl⟩
      · refine have h := iteF hc h; tK <| ATodo.blk <| tR <| ARun.qv (q_addw rfl rfl) rfl <| rM rfl rfl <| rN <| ATodo.stop <| ?_
        obtain rfl := Option.some.inj h
        exact hJ1 _ _ rfl <| ImpX.lq [] rfl rfl rfl
    · refine have h := iteF hc h; ATodo.exit rfl <| have h := outL h hA1; tSR <| rM rfl rfl <| rA rfl rfl <| rN <| ATodo.ret <| ?_
      obtain rfl := Option.some.inj h
      exact ImpX.here ⟨_, .cons (.tmp _ _ rfl) .nil, rfl⟩

end Go.Proofs.YtlhoigimdehaeaaGreatDoor

