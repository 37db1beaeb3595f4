/- The code computes the plain functions: proofs written by shal.py. -/
import Derived.Test.YtfplpihogacmaaaDoorNotP
import Derived.Test.YtfplpihogacmaaaDoorLib
set_option maxRecDepth 100000
set_option linter.unusedVariables false
set_option linter.unusedSimpArgs false
namespace Go.Proofs.YtfplpihogacmaaaDoor
open Go Go.Eng Go.Proofs Go.Beacon
attribute [local irreducible] ARun ATodo AQ QV ACall ImpX AWp AM
instance eqg61 : EqGd Tryd.prog 61 := ⟨by kernel_rfl⟩
instance eqt61 : EqTy Tryd.prog 61 2 Letter.av := ⟨fun x y w S v u hv hu => by
  obtain ⟨vs, rfl, hl, ha⟩ := At.agg_inv hv
  obtain ⟨us, rfl, hl', ha'⟩ := At.agg_inv hu
  obtain ⟨v0, p0, q0⟩ := AtA.get hl ha (off := 0) rfl
  obtain ⟨u0, p0', q0'⟩ := AtA.get hl' ha' (off := 0) rfl
  obtain ⟨v1, p1, q1⟩ := AtA.get hl ha (off := 1) rfl
  obtain ⟨u1, p1', q1'⟩ := AtA.get hl' ha' (off := 1) rfl
  obtain ⟨v2, p2, q2⟩ := AtA.get hl ha (off := 2) rfl
  obtain ⟨u2, p2', q2'⟩ := AtA.get hl' ha' (off := 2) rfl
  obtain ⟨v3, p3, q3⟩ := AtA.get hl ha (off := 3) rfl
  obtain ⟨u3, p3', q3'⟩ := AtA.get hl' ha' (off := 3) rfl
  obtain ⟨v4, p4, q4⟩ := AtA.get hl ha (off := 4) rfl
  obtain ⟨u4, p4', q4'⟩ := AtA.get hl' ha' (off := 4) rfl
  obtain ⟨v5, p5, q5⟩ := AtA.get hl ha (off := 5) rfl
  obtain ⟨u5, p5', q5'⟩ := AtA.get hl' ha' (off := 5) rfl
  refine EqR.cast (EqR.struct Tryd.underlying61 (by kernel_rfl) (.cons (by decide) (part_one rfl p0) (part_one rfl p0') (EqR.up (EqTy.h (g := AV.str) x.Id y.Id w S _ _ q0 q0') 0)  (.cons (by decide) (part_one rfl p1) (part_one rfl p1') (EqR.up (EqTy.h (g := AV.str) x.Slot y.Slot w S _ _ q1 q1') 0)  (.cons (by decide) (part_one rfl p2) (part_one rfl p2') (EqR.up (EqTy.h (g := AV.str) x.Body y.Body w S _ _ q2 q2') 0)  (.cons (by decide) (part_one rfl p3) (part_one rfl p3') (EqR.up (EqTy.h (g := I) x.Prio y.Prio w S _ _ q3 q3') 0)  (.cons (by decide) (part_one rfl p4) (part_one rfl p4') (EqR.up (EqTy.h (g := I) x.At y.At w S _ _ q4 q4') 0)  (.cons (by decide) (part_one rfl p5) (part_one rfl p5') (EqR.up (EqTy.h (g := I) x.Until y.Until w S _ _ q5 q5') 0) .nil))))))) ?_
  obtain ⟨_, _, _, _, _, _⟩ := x
  obtain ⟨_, _, _, _, _, _⟩ := y
  rw [Bool.eq_iff_iff]; simp [and_assoc]⟩
instance eqg63 : EqGd Tryd.prog 63 := ⟨by kernel_rfl⟩
instance eqt63 : EqTy Tryd.prog 63 3 Note.av := ⟨fun x y w S v u hv hu => by
  obtain ⟨vs, rfl, hl, ha⟩ := At.agg_inv hv
  obtain ⟨us, rfl, hl', ha'⟩ := At.agg_inv hu
  obtain ⟨v1, p1, q1⟩ := AtA.get hl ha (off := 6) rfl
  obtain ⟨u1, p1', q1'⟩ := AtA.get hl' ha' (off := 6) rfl
  obtain ⟨v2, p2, q2⟩ := AtA.get hl ha (off := 7) rfl
  obtain ⟨u2, p2', q2'⟩ := AtA.get hl' ha' (off := 7) rfl
  obtain ⟨v3, p3, q3⟩ := AtA.get hl ha (off := 8) rfl
  obtain ⟨u3, p3', q3'⟩ := AtA.get hl' ha' (off := 8) rfl
  refine EqR.cast (EqR.struct Tryd.underlying63 (by kernel_rfl) (.cons (by decide) (part_agg rfl rfl) (part_agg rfl rfl) (EqR.up (EqTy.h (g := Letter.av) x.Letter y.Letter w S _ _ (AtA.sub hl ha 0 6 (Nat.le_of_ble_eq_true rfl)) (AtA.sub hl' ha' 0 6 (Nat.le_of_ble_eq_true rfl))) 0)  (.cons (by decide) (part_one rfl p1) (part_one rfl p1') (EqR.up (EqTy.h (g := I) x.State y.State w S _ _ q1 q1') 1)  (.cons (by decide) (part_one rfl p2) (part_one rfl p2') (EqR.up (EqTy.h (g := I) x.Tries y.Tries w S _ _ q2 q2') 1)  (.cons (by decide) (part_one rfl p3) (part_one rfl p3') (EqR.up (EqTy.h (g := I) x.Since y.Since w S _ _ q3 q3') 1) .nil))))) ?_
  obtain ⟨_, _, _, _⟩ := x
  obtain ⟨_, _, _, _⟩ := y
  rw [Bool.eq_iff_iff]; simp [and_assoc]⟩
set_option maxHeartbeats 4000000 in
theorem Below_c [GI : GTab] {p0x0 : Int} {p1x0 : Int} {r : Int} (h : Below p0x0 p1x0 = some r) : Pu Tryd.prog 122 [I p0x0, I p1x0] (I r) := by
  unfold Below at h
  refine ACall.bodyN Tryd.func122 rfl Tryd.ntmps122 Tryd.results122 rfl rfl ?_
  refine tSR <| rA rfl rfl <| rN <| tS <| tSR <| rM rfl rfl <| ARun.qv (q_lss rfl rfl) rfl <| rN <| ATodo.cond_d rfl (fun hc => ?_) (fun hc => ?_)
  · refine have h := iteT hc h; tSR <| rA rfl rfl <| rN <| ATodo.ret <| ?_
    obtain rfl := Option.some.inj h
    exact ImpX.here ⟨_, .cons (.tmp _ _ rfl) .nil, rfl⟩
  · refine have h := iteF hc h; tK <| tSR <| rM rfl rfl <| rM rfl rfl <| bndE h fun n1 e1 h => ARun.qv (t_remS rfl rfl e1) rfl <| rA rfl rfl <| rN <| tS <| tSR <| rM rfl rfl <| ARun.qv (q_lss rfl rfl) rfl <| rN <| ATodo.cut (fun σ' => ∃ (n2 : Int), Below_j1 n2 = some r ∧ σ' = ⟨16, [(0, I n2)], []⟩) ?_ ?_
    · refine ATodo.cond_d rfl (fun hc => ?_) (fun hc => ?_)
      · exact have h := iteT hc h; tR <| rM rfl rfl <| rM rfl rfl <| ARun.qv (q_addw rfl rfl) rfl <| rA rfl rfl <| rN <| ATodo.stop <| ImpX.lq [] ⟨w64 (n1 + p1x0), h, rfl⟩ rfl rfl
      · exact have h := iteF hc h; tK <| ATodo.stop <| ImpX.lq [] ⟨n1, h, rfl⟩ rfl rfl
    · rintro σ' ⟨n2, h, rfl⟩
      unfold Below_j1 at h
      refine tSR <| rM rfl rfl <| rA rfl rfl <| rN <| ATodo.ret <| ?_
      obtain rfl := Option.some.inj h
      exact ImpX.here ⟨_, .cons (.tmp _ _ rfl) .nil, rfl⟩

set_option maxHeartbeats 4000000 in
theorem Stream_Next_c [GI : GTab] {b_0 : Bk} {p0x0 : Fleetmake_Stream} {p1x0 : Int} {r : Int × Fleetmake_Stream} (h : Stream_Next p0x0 p1x0 = some r) : ACall Tryd.prog 62 [.ptr b_0 0, I p1x0] [(b_0, .cells [.list 1 (p0x0.L.map I), I p0x0.at_])] (T0 ([(b_0, .cells [.list 1 (r.2.L.map I), I r.2.at_])]) (I r.1)) := by
  unfold Stream_Next at h
  refine ACall.lessH ?_
  refine ACall.bodyN Tryd.func62 rfl Tryd.ntmps62 Tryd.results62 rfl rfl ?_
  refine tSR <| rA rfl rfl <| rN <| tSR <| rM rfl rfl <| ARun.qv (q_nilCheck_ptr rfl) rfl <| rF rfl rfl rfl <| rL rfl rfl .p0 rfl rfl <| ARun.qv (q_addw rfl rfl) rfl <| ARun.qv (q_nilCheck_ptr rfl) rfl <| rF rfl rfl rfl <| n_store_ptr rfl rfl rfl rfl .p0 rfl rfl <| rN <| tS <| tSR <| rM rfl rfl <| ARun.qv (q_nilCheck_ptr rfl) rfl <| rF rfl rfl rfl <| rL rfl rfl .p0 rfl rfl <| ARun.qv (t_len rfl) rfl <| ARun.qv (q_eql rfl rfl) rfl <| rN <| ATodo.cond_d rfl (fun hc => ?_) (fun hc => ?_)
  · refine have h := iteT hc h; tSR <| rM rfl rfl <| ARun.qv (q_nilCheck_ptr rfl) rfl <| rF rfl rfl rfl <| rL rfl rfl .p0 rfl rfl <| ARun.qv (q_mulw rfl rfl) rfl <| rM rfl rfl <| bndE h fun v1 e1 h => r_callp rfl (Below_c e1) (CoL.refl _) rfl <| rA rfl rfl <| rN <| ATodo.ret <| ?_
    obtain rfl := Option.some.inj h
    exact ImpX.here ⟨_, .cons (.tmp _ _ rfl) .nil, _, .cons .p0 .nil, ⟨rfl, rfl⟩⟩
  · refine have h := iteF hc h; tK <| tS <| ATodo.regionM (id := 4) (A := [0, 1, 3, 7, 15, 0, 32, 96, 224, 480, 1023, 2047]) 12 mixed rfl (by kernel_rfl) (by kernel_rfl) <| AM.qv (q_move rfl) rfl <| AM.qv (q_nilCheck_ptr rfl) rfl <| AM.qv (n_field_ptr rfl rfl) rfl <| AM.qv (q_load_ptr rfl rfl .p0 rfl) rfl <| AM.qv (q_subw rfl rfl) rfl <| AM.qv (q_move rfl) rfl <| AM.qv (q_nilCheck_ptr rfl) rfl <| AM.qv (n_field_ptr rfl rfl) rfl <| AM.qv (q_load_ptr rfl rfl .p0 rfl) rfl <| AM.qv (t_len rfl) rfl <| bndE h fun n2 e2 h => AM.qv (t_remS rfl rfl e2) rfl <| AM.qv (q_assign rfl) rfl <| AM.nil <| rN <| tS <| ATodo.regionM (id := 5) (A := [0, 1, 3, 7, 15, 0, 32, 96, 224, 480, 1023, 2047]) 12 mixed rfl (by kernel_rfl) (by kernel_rfl) <| AM.qv (q_move rfl) rfl <| AM.qv (q_nilCheck_ptr rfl) rfl <| AM.qv (n_field_ptr rfl rfl) rfl <| AM.qv (q_load_ptr rfl rfl .p0 rfl) rfl <| AM.qv (q_subw rfl rfl) rfl <| AM.qv (q_move rfl) rfl <| AM.qv (q_nilCheck_ptr rfl) rfl <| AM.qv (n_field_ptr rfl rfl) rfl <| AM.qv (q_load_ptr rfl rfl .p0 rfl) rfl <| AM.qv (t_len rfl) rfl <| bndE h fun n3 e3 h => AM.qv (t_quoS rfl rfl e3) rfl <| AM.qv (q_assign rfl) rfl <| AM.nil <| rN <| tSR <| rM rfl rfl <| ARun.qv (q_nilCheck_ptr rfl) rfl <| rF rfl rfl rfl <| rL rfl rfl .p0 rfl rfl <| rM rfl rfl <| bndE h fun v4 e4 h => ARun.qv (t_index rfl rfl rfl e4 rfl rfl) rfl <| ARun.qv (q_load_rptr rfl rfl rfl) rfl <| bndE h fun v5 e5 h => r_callp rfl (Below_c e5) (CoL.refl _) rfl <| rM rfl rfl <| rM rfl rfl <| ARun.qv (q_addw rfl rfl) rfl <| ARun.qv (q_mulw rfl rfl) rfl <| ARun.qv (q_addw rfl rfl) rfl <| rM rfl rfl <| bndE h fun v6 e6 h => r_callp rfl (Below_c e6) (CoL.refl _) rfl <| rA rfl rfl <| rN <| ATodo.ret <| ?_
    obtain rfl := Option.some.inj h
    exact ImpX.here ⟨_, .cons (.tmp _ _ rfl) .nil, _, .cons .p0 .nil, ⟨rfl, rfl⟩⟩

set_option maxHeartbeats 4000000 in
theorem Stream_Flip_c [GI : GTab] {b_0 : Bk} {p0x0 : Fleetmake_Stream} {p1x0 : Int} {r : Bool × Fleetmake_Stream} (h : Stream_Flip p0x0 p1x0 = some r) : ACall Tryd.prog 11 [.ptr b_0 0, I p1x0] [(b_0, .cells [.list 1 (p0x0.L.map I), I p0x0.at_])] (T0 ([(b_0, .cells [.list 1 (r.2.L.map I), I r.2.at_])]) (.bool r.1)) := by
  unfold Stream_Flip at h
  refine ACall.lessH ?_
  refine ACall.bodyN Tryd.func11 rfl Tryd.ntmps11 Tryd.results11 rfl rfl ?_
  refine tSR <| rA rfl rfl <| rN <| tSR <| rM rfl rfl <| rM rfl rfl <| bndE h fun v1 e1 h => t_call0 rfl (Stream_Next_c e1) (CoL.refl _) (.cons .p0 .nil) rfl rfl <| ARun.qv (q_eql rfl rfl) rfl <| rA rfl rfl <| rN <| ATodo.ret <| ?_
  obtain rfl := Option.some.inj h
  exact ImpX.here ⟨_, .cons (.tmp _ _ rfl) .nil, _, .cons .p0 .nil, ⟨rfl, rfl⟩⟩

set_option maxHeartbeats 4000000 in
theorem Stream_Some_c [GI : GTab] {b_0 : Bk} {p0x0 : Fleetmake_Stream} {p1x0 : List Str} {r : Str × Fleetmake_Stream} (h : Stream_Some p0x0 p1x0 = some r) : ACall Tryd.prog 48 [.ptr b_0 0, .list 1 (p1x0.map AV.str)] [(b_0, .cells [.list 1 (p0x0.L.map I), I p0x0.at_])] (T0 ([(b_0, .cells [.list 1 (r.2.L.map I), I r.2.at_])]) (.str r.1)) := by
  unfold Stream_Some at h
  refine ACall.lessH ?_
  refine ACall.bodyN Tryd.func48 rfl Tryd.ntmps48 Tryd.results48 rfl rfl ?_
  refine tSR <| rA rfl rfl <| rN <| tSR <| rM rfl rfl <| rM rfl rfl <| rM rfl rfl <| ARun.qv (t_len rfl) rfl <| bndE h fun v1 e1 h => t_call0 rfl (Stream_Next_c e1) (CoL.refl _) (.cons .p0 .nil) rfl rfl <| bndE h fun v2 e2 h => ARun.qv (t_index rfl rfl rfl e2 rfl rfl) rfl <| ARun.qv (q_load_rptr rfl rfl rfl) rfl <| rA rfl rfl <| rN <| ATodo.ret <| ?_
  obtain rfl := Option.some.inj h
  exact ImpX.here ⟨_, .cons (.tmp _ _ rfl) .nil, _, .cons .p0 .nil, ⟨rfl, rfl⟩⟩

set_option maxHeartbeats 4000000 in
theorem Stream_Pick_c [GI : GTab] {b_0 : Bk} {p0x0 : Fleetmake_Stream} {p1x0 : List Int} {r : Int × Fleetmake_Stream} (h : Stream_Pick p0x0 p1x0 = some r) : ACall Tryd.prog 8 [.ptr b_0 0, .list 1 (p1x0.map I)] [(b_0, .cells [.list 1 (p0x0.L.map I), I p0x0.at_])] (T0 ([(b_0, .cells [.list 1 (r.2.L.map I), I r.2.at_])]) (I r.1)) := by
  unfold Stream_Pick at h
  refine ACall.lessH ?_
  refine ACall.bodyN Tryd.func8 rfl Tryd.ntmps8 Tryd.results8 rfl rfl ?_
  refine tSR <| rA rfl rfl <| rN <| tSR <| rM rfl rfl <| rM rfl rfl <| rM rfl rfl <| ARun.qv (t_len rfl) rfl <| bndE h fun v1 e1 h => t_call0 rfl (Stream_Next_c e1) (CoL.refl _) (.cons .p0 .nil) rfl rfl <| bndE h fun v2 e2 h => ARun.qv (t_index rfl rfl rfl e2 rfl rfl) rfl <| ARun.qv (q_load_rptr rfl rfl rfl) rfl <| rA rfl rfl <| rN <| ATodo.ret <| ?_
  obtain rfl := Option.some.inj h
  exact ImpX.here ⟨_, .cons (.tmp _ _ rfl) .nil, _, .cons .p0 .nil, ⟨rfl, rfl⟩⟩

set_option maxHeartbeats 4000000 in
theorem Stream_Range_c [GI : GTab] {b_0 : Bk} {p0x0 : Fleetmake_Stream} {p1x0 : Int} {p2x0 : Int} {r : Int × Fleetmake_Stream} (h : Stream_Range p0x0 p1x0 p2x0 = some r) : ACall Tryd.prog 12 [.ptr b_0 0, I p1x0, I p2x0] [(b_0, .cells [.list 1 (p0x0.L.map I), I p0x0.at_])] (T0 ([(b_0, .cells [.list 1 (r.2.L.map I), I r.2.at_])]) (I r.1)) := by
  unfold Stream_Range at h
  refine ACall.lessH ?_
  refine ACall.bodyN Tryd.func12 rfl Tryd.ntmps12 Tryd.results12 rfl rfl ?_
  refine tSR <| rA rfl rfl <| rN <| tS <| tSR <| rM rfl rfl <| rM rfl rfl <| ARun.qv (q_lss rfl rfl) rfl <| rN <| ATodo.cond_d rfl (fun hc => ?_) (fun hc => ?_)
  · refine have h := iteT hc h; tSR <| rM rfl rfl <| rA rfl rfl <| rN <| ATodo.ret <| ?_
    obtain rfl := Option.some.inj h
    exact ImpX.here ⟨_, .cons (.tmp _ _ rfl) .nil, _, .cons .p0 .nil, ⟨rfl, rfl⟩⟩
  · refine have h := iteF hc h; tK <| tSR <| rM rfl rfl <| rM rfl rfl <| rM rfl rfl <| rM rfl rfl <| ARun.qv (q_subw rfl rfl) rfl <| ARun.qv (q_addw rfl rfl) rfl <| bndE h fun v1 e1 h => t_call0 rfl (Stream_Next_c e1) (CoL.refl _) (.cons .p0 .nil) rfl rfl <| ARun.qv (q_addw rfl rfl) rfl <| rA rfl rfl <| rN <| ATodo.ret <| ?_
    obtain rfl := Option.some.inj h
    exact ImpX.here ⟨_, .cons (.tmp _ _ rfl) .nil, _, .cons .p0 .nil, ⟨rfl, rfl⟩⟩

set_option maxHeartbeats 4000000 in
theorem Stream_Odd_c [GI : GTab] {b_0 : Bk} {p0x0 : Fleetmake_Stream} {p1x0 : Int} {p2x0 : Int} {r : Int × Fleetmake_Stream} (h : Stream_Odd p0x0 p1x0 p2x0 = some r) : ACall Tryd.prog 61 [.ptr b_0 0, I p1x0, I p2x0] [(b_0, .cells [.list 1 (p0x0.L.map I), I p0x0.at_])] (T0 ([(b_0, .cells [.list 1 (r.2.L.map I), I r.2.at_])]) (I r.1)) := by
  unfold Stream_Odd at h
  refine ACall.lessH ?_
  refine ACall.bodyN Tryd.func61 rfl Tryd.ntmps61 Tryd.results61 rfl rfl ?_
  refine tSR <| rA rfl rfl <| rN <| tS <| tSR <| rM rfl rfl <| bndE h fun v1 e1 h => t_call0 rfl (Stream_Flip_c e1) (CoL.refl _) (.cons .p0 .nil) rfl rfl <| rN <| ATodo.cond rfl (fun hc => ?_) (fun hc => ?_)
  · refine have h := iteT hc h; tSR <| rM rfl rfl <| rM rfl rfl <| ARun.qv (q_subw rfl rfl) rfl <| rM rfl rfl <| ARun.qv (q_addw rfl rfl) rfl <| rM rfl rfl <| rM rfl rfl <| n_buildSliceL (xs := ([w64 (p1x0 - (1 : Int)), w64 (p2x0 + (1 : Int)), p1x0, p2x0, (-1099511627776 : Int), (1099511627776 : Int)]).map I) rfl rfl rfl rfl rfl rfl <| bndE h fun v2 e2 h => t_call0 rfl (Stream_Pick_c e2) (CoL.refl _) (.cons .p0 .nil) rfl rfl <| rA rfl rfl <| rN <| ATodo.ret <| ?_
    obtain rfl := Option.some.inj h
    exact ImpX.here ⟨_, .cons (.tmp _ _ rfl) .nil, _, .cons .p0 .nil, ⟨rfl, rfl⟩⟩
  · refine have h := iteFb hc h; tK <| tSR <| rM rfl rfl <| rM rfl rfl <| rM rfl rfl <| bndE h fun v3 e3 h => t_call0 rfl (Stream_Range_c e3) (CoL.refl _) (.cons .p0 .nil) rfl rfl <| rA rfl rfl <| rN <| ATodo.ret <| ?_
    obtain rfl := Option.some.inj h
    exact ImpX.here ⟨_, .cons (.tmp _ _ rfl) .nil, _, .cons .p0 .nil, ⟨rfl, rfl⟩⟩

set_option maxHeartbeats 4000000 in
theorem Stream_Notes_c [GI : GTab] {b_0 : Bk} {p0x0 : Fleetmake_Stream} {r : (List Note) × Fleetmake_Stream} (h : Stream_Notes p0x0 = some r) : ACall Tryd.prog 26 [.ptr b_0 0] [(b_0, .cells [.list 1 (p0x0.L.map I), I p0x0.at_])] (T1 (fun d_0 => [(b_0, .cells [.list 1 (r.2.L.map I), I r.2.at_]), (d_0, .arr 9 (r.1.map Note.av))]) (fun d_0 => .sl 9 d_0 0 r.1.length)) := by
  unfold Stream_Notes at h
  refine ACall.lessH ?_
  refine ACall.bodyN Tryd.func26 rfl Tryd.ntmps26 Tryd.results26 rfl rfl ?_
  refine tSR <| rA rfl rfl <| rN <| tSR <| rA rfl rfl <| rN <| tS <| tSR <| n_buildSliceL (xs := ([([108, 97] : Str), ([108, 98] : Str), ([108, 99] : Str), ([108, 100] : Str)]).map AV.str) rfl rfl rfl rfl rfl rfl <| ARun.qv (t_len rfl) rfl <| rM rfl rfl <| rN <| ATodo.block <| ATodo.loopI (fun x : (List Int) × Int × (List Note) × Int => Stream_Notes_b1 x.1 x.2.1 x.2.2.1 x.2.2.2) (fun x σ' => ∃ (b8 : Bk), σ' = ⟨58, [(0, .ptr b_0 0), (3, .sl 9 b8 0 x.2.2.1.length), (7, .list 1 ([([108, 97] : Str), ([108, 98] : Str), ([108, 99] : Str), ([108, 100] : Str)].map AV.str)), (8, I ([([108, 97] : Str), ([108, 98] : Str), ([108, 99] : Str), ([108, 100] : Str)].length : Int)), (9, I x.2.2.2)], [(b_0, .cells [.list 1 (x.1.map I), I x.2.1]), (b8, .arr 9 (x.2.2.1.map Note.av))]⟩) h ?_ ?_
  · exact ImpX.arr (s := 3) 9 rfl fun b11 => ImpX.lq [1, 0] ⟨b11, rfl⟩ rfl rfl
  · intro x z1 σ' J1 hmk h hJ1 hA1
    obtain ⟨l6, n7, l9, n10⟩ := x
    obtain ⟨b8, rfl⟩ := hmk
    replace h : Stream_Notes_b1 l6 n7 l9 n10 = some z1 := h
    unfold Stream_Notes_b1 at h
    refine tSR <| ARun.qv (q_lss rfl rfl) rfl <| rN <| tS <| ATodo.cond_d rfl (fun hc => ?_) (fun hc => ?_)
    · refine have h := iteT hc h; tK <| tS <| ATodo.cut (fun σ' => ∃ (b14 : Bk) (l12 : List Int) (n13 : Int) (l15 : List Note), Stream_Notes_j1 n10 l12 n13 l15 = some z1 ∧ σ' = ⟨58, [(0, .ptr b_0 0), (3, .sl 9 b14 0 l15.length), (7, .list 1 ([([108, 97] : Str), ([108, 98] : Str), ([108, 99] : Str), ([108, 100] : Str)].map AV.str)), (8, I ([([108, 97] : Str), ([108, 98] : Str), ([108, 99] : Str), ([108, 100] : Str)].length : Int)), (9, I n10)], [(b_0, .cells [.list 1 (l12.map I), I n13]), (b14, .arr 9 (l15.map Note.av))]⟩) ?_ ?_
      · refine ATodo.block <| tSR <| bndE h fun v16 e1 h => ARun.qv (t_index rfl rfl rfl e1 rfl rfl) rfl <| ARun.qv (q_load_rptr rfl rfl rfl) rfl <| rA rfl rfl <| rN <| tS <| tSR <| rM rfl rfl <| bndE h fun v17 e2 h => t_call0 rfl (Stream_Flip_c e2) (CoL.refl _) (.cons .p0 .nil) rfl rfl <| rN <| ATodo.cond rfl (fun hc => ?_) (fun hc => ?_)
        · exact have h := iteT hc h; ATodo.exit rfl <| ATodo.stop <| ImpX.lq [0, 0] ⟨b8, v17.2.L, v17.2.at_, l9, h, rfl⟩ rfl rfl
        · refine have h := iteFb hc h; tK <| tSR <| rM rfl rfl <| rM rfl rfl <| n_buildSliceL (xs := ([([] : Str), ([115, 97] : Str)]).map AV.str) rfl rfl rfl rfl rfl rfl <| bndE h fun v18 e3 h => t_call0 rfl (Stream_Some_c e3) (CoL.refl _) (.cons .p0 .nil) rfl rfl <| rM rfl rfl <| n_buildSliceL (xs := ([([100, 111] : Str), ([100, 111] : Str), ([120, 32, 34, 121, 34] : Str)]).map AV.str) rfl rfl rfl rfl rfl rfl <| bndE h fun v19 e4 h => t_call0 rfl (Stream_Some_c e4) (CoL.refl _) (.cons .p0 .nil) rfl rfl <| rM rfl rfl <| n_buildSliceL (xs := ([(0 : Int), (0 : Int), (0 : Int), (5 : Int)]).map I) rfl rfl rfl rfl rfl rfl <| bndE h fun v20 e5 h => t_call0 rfl (Stream_Pick_c e5) (CoL.refl _) (.cons .p0 .nil) rfl rfl <| ARun.qv (n_build rfl rfl rfl rfl rfl) rfl <| rM rfl rfl <| bndE h fun v21 e6 h => t_call0 rfl (Stream_Range_c e6) (CoL.refl _) (.cons .p0 .nil) rfl rfl <| rM rfl rfl <| n_buildSliceL (xs := ([(0 : Int), (1 : Int), (1 : Int), (2 : Int)]).map I) rfl rfl rfl rfl rfl rfl <| bndE h fun v22 e7 h => t_call0 rfl (Stream_Pick_c e7) (CoL.refl _) (.cons .p0 .nil) rfl rfl <| rM rfl rfl <| n_buildSliceL (xs := ([(0 : Int), (5 : Int), (5 : Int), (9 : Int)]).map I) rfl rfl rfl rfl rfl rfl <| bndE h fun v23 e8 h => t_call0 rfl (Stream_Pick_c e8) (CoL.refl _) (.cons .p0 .nil) rfl rfl <| ARun.qv (n_build rfl rfl rfl rfl rfl) rfl <| n_alloc rfl rfl rfl rfl fun b24 => n_store_ptr rfl rfl rfl rfl .p0 rfl rfl <| rN <| tS <| tSR <| rM rfl rfl <| bndE h fun v25 e9 h => t_call0 rfl (Stream_Flip_c e9) (CoL.refl _) (.cons .p1 .nil) rfl rfl <| rN <| ATodo.cut (fun σ' => ∃ (l26 : List Int) (n27 : Int) (q28 : Str) (n29 : Int) (n30 : Int) (n31 : Int), Stream_Notes_j2 l9 n10 v18 v19 v20 l26 n27 q28 n29 n30 n31 = some z1 ∧ σ' = ⟨58, [(0, .ptr b_0 0), (3, .sl 9 b8 0 l9.length), (6, .ptr b24 0), (7, .list 1 ([([108, 97] : Str), ([108, 98] : Str), ([108, 99] : Str), ([108, 100] : Str)].map AV.str)), (8, I ([([108, 97] : Str), ([108, 98] : Str), ([108, 99] : Str), ([108, 100] : Str)].length : Int)), (9, I n10)], [(b_0, .cells [.list 1 (l26.map I), I n27]), (b8, .arr 9 (l9.map Note.av)), (b24, .cells [.str q28, .str v18.1, .str v19.1, I v20.1, I (0 : Int), I (100 : Int), I n29, I n30, I n31])]⟩) ?_ ?_
          · refine ATodo.cond rfl (fun hc => ?_) (fun hc => ?_)
            · exact have h := iteT hc h; tR <| rM rfl rfl <| rM rfl rfl <| n_buildSliceL (xs := ([v16, ([] : Str), ([108, 97] : Str)]).map AV.str) rfl rfl rfl rfl rfl rfl <| bndE h fun v32 e10 h => t_call0 rfl (Stream_Some_c e10) (CoL.refl _) (.cons .p0 .nil) rfl rfl <| rM rfl rfl <| bndE h fun v33 e11 h => t_call0 rfl (Stream_Odd_c e11) (CoL.refl _) (.cons .p0 .nil) rfl rfl <| rM rfl rfl <| bndE h fun v34 e12 h => t_call0 rfl (Stream_Odd_c e12) (CoL.refl _) (.cons .p0 .nil) rfl rfl <| rM rfl rfl <| bndE h fun v35 e13 h => t_call0 rfl (Stream_Odd_c e13) (CoL.refl _) (.cons .p0 .nil) rfl rfl <| rF rfl rfl rfl <| rF rfl rfl rfl <| n_store_ptr rfl rfl rfl rfl .p1 rfl rfl <| rF rfl rfl rfl <| n_store_ptr rfl rfl rfl rfl .p1 rfl rfl <| rF rfl rfl rfl <| n_store_ptr rfl rfl rfl rfl .p1 rfl rfl <| rF rfl rfl rfl <| n_store_ptr rfl rfl rfl rfl .p1 rfl rfl <| rN <| ATodo.stop <| ImpX.lq [0, 1, 0] ⟨v35.2.L, v35.2.at_, v32.1, v33.1, v34.1, v35.1, h, rfl⟩ rfl rfl
            · exact have h := iteFb hc h; tK <| ATodo.stop <| ImpX.lq [0, 1, 0] ⟨v25.2.L, v25.2.at_, v16, v21.1, v22.1, v23.1, h, rfl⟩ rfl rfl
          · rintro σ' ⟨l26, n27, q28, n29, n30, n31, h, rfl⟩
            unfold Stream_Notes_j2 at h
            exact tR <| rM rfl rfl <| ARun.qv (q_load_ptr_all rfl rfl .p2 rfl) rfl <| n_buildSliceL (xs := ([(⟨(⟨q28, v18.1, v19.1, v20.1, (0 : Int), (100 : Int)⟩ : Letter), n29, n30, n31⟩ : Note)]).map Note.av) rfl rfl rfl rfl rfl rfl <| bndE h fun l36 e14 h => t_append (g := Note.av) rfl rfl rfl rfl rfl rfl rfl rfl (.list _) e14 (fun _ => .p1) rfl fun b37 => rA rfl rfl <| rN <| ATodo.blk <| ATodo.stop <| ImpX.lq [0, 0] ⟨b37, l26, n27, l36, h, rfl⟩ rfl rfl
      · rintro σ' ⟨b14, l12, n13, l15, h, rfl⟩
        unfold Stream_Notes_j1 at h
        refine tR <| ARun.qv (q_addw rfl rfl) rfl <| rM rfl rfl <| rN <| ATodo.stop <| ?_
        obtain rfl := Option.some.inj h
        exact hJ1 _ _ rfl <| ImpX.lq [0, 0] ⟨b14, rfl⟩ rfl rfl
    · refine have h := iteF hc h; ATodo.exit rfl <| have h := outL h hA1; tSR <| rM rfl rfl <| rA rfl rfl <| rN <| ATodo.ret <| ?_
      obtain rfl := Option.some.inj h
      exact ImpX.here ⟨_, .cons (.tmp _ _ rfl) .nil, _, .cons .p0 (.cons .p0 .nil), ⟨b8, rfl, rfl⟩⟩

set_option maxHeartbeats 4000000 in
theorem slices_Clone_Note_Note_c [GI : GTab] {p0x0 : List Note} {r : (List Note)} (h : slices_Clone_Note_Note p0x0 = some r) : ACall Tryd.prog 27 [.list 9 (p0x0.map Note.av)] [] (T1 (fun d_0 => [(d_0, .arr 9 (r.map Note.av))]) (fun d_0 => .sl 9 d_0 0 r.length)) := by
  unfold slices_Clone_Note_Note at h
  refine ACall.lessH ?_
  refine ACall.bodyN Tryd.func27 rfl Tryd.ntmps27 Tryd.results27 rfl rfl ?_
  refine ATodo.seq ?_
  refine ATodo.region ?_
  refine ARun.qv (q_assign rfl) rfl ?_
  refine ARun.nil ?_
  refine ATodo.seq ?_
  refine ATodo.seq ?_
  refine ATodo.region ?_
  refine ARun.qv (q_move rfl) rfl ?_
  refine r_eqnil rfl rfl rfl rfl (fun c hc => ?_)
  refine ARun.nil ?_
  refine ATodo.cond rfl (fun hT => ?_) (fun hF => ?_)
  · obtain rfl := app_nil_some h (List.map_eq_nil_iff.1 (hc hT))
    refine ATodo.seq ?_
    refine ATodo.region ?_
    refine ARun.qv (q_assign rfl) rfl ?_
    refine ARun.nil ?_
    refine ATodo.ret ?_
    refine ImpX.arr (s := 2) 9 rfl (fun b1 => ?_)
    exact ImpX.here ⟨_, .cons (.tmp _ _ rfl) .nil, _, .cons .here .nil, ⟨b1, rfl, rfl⟩⟩
  · refine ATodo.skip ?_
    refine ATodo.seq ?_
    refine ATodo.region ?_
    refine n_buildSlice (xs := ([] : List Note).map Note.av) rfl rfl rfl rfl rfl rfl (fun b2 => ?_)
    refine ARun.qv (q_move rfl) rfl ?_
    refine t_append (g := Note.av) (Xs := []) rfl rfl rfl rfl rfl rfl rfl rfl (.list _) h (fun _ => .here) rfl (fun b3 => ?_)
    refine ARun.qv (q_assign rfl) rfl ?_
    refine ARun.nil ?_
    refine ATodo.ret ?_
    exact ImpX.here ⟨_, .cons (.tmp _ _ rfl) .nil, _, .cons .here .nil, ⟨b3, rfl, rfl⟩⟩

set_option maxHeartbeats 4000000 in
theorem base_Key_c [GI : GTab] {p0x0 : Str} {r : Bool} (h : base_Key p0x0 = some r) : Pu Tryd.prog 106 [.str p0x0] (.bool r) := by
  unfold base_Key at h
  refine ACall.bodyN Tryd.func106 rfl Tryd.ntmps106 Tryd.results106 rfl rfl ?_
  refine tSR <| rA rfl rfl <| rN <| tS <| tS <| ATodo.cut (fun σ' => ∃ (c1 : Bool), base_Key_j1 p0x0 c1 = some r ∧ σ' = ⟨54, [(0, .str p0x0), (21, .bool c1)], []⟩) ?_ ?_
  · refine tR <| rM rfl rfl <| ARun.qv (q_seq rfl rfl) rfl <| rM rfl rfl <| ARun.guard_df rfl rfl rfl (fun hc => ?_) (fun hc => ?_)
    · refine have h := iteF hc h; rM rfl rfl <| rY rfl rfl rfl <| ARun.qv (q_len_str rfl) rfl <| rY rfl rfl rfl <| ARun.qv (q_gtr rfl rfl) rfl <| rE rfl rfl rfl <| rM rfl rfl <| ARun.guard_df rfl rfl rfl (fun hc => ?_) (fun hc => ?_)
      · refine have h := iteF hc h; rM rfl rfl <| rY rfl rfl rfl <| bndE h fun c2 e1 h => ARun.qv (t_index_str rfl rfl e1) rfl <| rY rfl rfl rfl <| ARun.qv (q_lss rfl rfl) rfl <| rE rfl rfl rfl <| rM rfl rfl <| ARun.guard_df rfl rfl rfl (fun hc => ?_) (fun hc => ?_)
        · exact have h := iteF hc h; rM rfl rfl <| rY rfl rfl rfl <| bndE h fun c3 e2 h => ARun.qv (t_index_str rfl rfl e2) rfl <| rY rfl rfl rfl <| ARun.qv (q_gtr rfl rfl) rfl <| rE rfl rfl rfl <| rN <| ATodo.stop <| ImpX.lq [] ⟨decide ((122 : Int) < (c3.toNat : Int)), h, rfl⟩ rfl rfl
        · exact have h := iteT hc h; rG rfl rfl rfl rfl <| rG rfl rfl rfl rfl <| rT rfl rfl rfl <| rN <| ATodo.stop <| ImpX.lq [] ⟨true, h, rfl⟩ rfl rfl
      · exact have h := iteT hc h; rG rfl rfl rfl rfl <| rG rfl rfl rfl rfl <| rT rfl rfl rfl <| rM rfl rfl <| rG rfl rfl rfl rfl <| rG rfl rfl rfl rfl <| rG rfl rfl rfl rfl <| rT rfl rfl rfl <| rN <| ATodo.stop <| ImpX.lq [] ⟨true, h, rfl⟩ rfl rfl
    · exact have h := iteT hc h; rG rfl rfl rfl rfl <| rG rfl rfl rfl rfl <| rT rfl rfl rfl <| rM rfl rfl <| rG rfl rfl rfl rfl <| rG rfl rfl rfl rfl <| rG rfl rfl rfl rfl <| rT rfl rfl rfl <| rM rfl rfl <| rG rfl rfl rfl rfl <| rG rfl rfl rfl rfl <| rG rfl rfl rfl rfl <| rT rfl rfl rfl <| rN <| ATodo.stop <| ImpX.lq [] ⟨true, h, rfl⟩ rfl rfl
  · rintro σ' ⟨c1, h, rfl⟩
    unfold base_Key_j1 at h
    refine ATodo.cond rfl (fun hc => ?_) (fun hc => ?_)
    · refine have h := iteT hc h; tSR <| rA rfl rfl <| rN <| ATodo.ret <| ?_
      obtain rfl := Option.some.inj h
      exact ImpX.here ⟨_, .cons (.tmp _ _ rfl) .nil, rfl⟩
    · refine have h := iteFb hc h; tK <| tS <| tSR <| rM rfl rfl <| ARun.qv (q_len_str rfl) rfl <| rM rfl rfl <| rN <| ATodo.block <| ATodo.loopI (fun x : Int => base_Key_b1 p0x0 x) (fun x σ' => σ' = ⟨54, [(0, .str p0x0), (23, I (p0x0.length : Int)), (24, I x)], []⟩) h ?_ ?_
      · exact ImpX.lq [] rfl rfl rfl
      · intro n5 z1 σ' J1 hmk h hJ1 hA1
        obtain rfl := hmk
        replace h : base_Key_b1 p0x0 n5 = some z1 := h
        unfold base_Key_b1 at h
        refine tSR <| ARun.qv (q_lss rfl rfl) rfl <| rN <| tS <| ATodo.cond_d rfl (fun hc => ?_) (fun hc => ?_)
        · refine have h := iteT hc h; tK <| tS <| ATodo.block <| tSR <| rM rfl rfl <| rA rfl rfl <| rN <| tSR <| rM rfl rfl <| rM rfl rfl <| bndE h fun c6 e3 h => ARun.qv (t_index_str rfl rfl e3) rfl <| rA rfl rfl <| rN <| tS <| ATodo.cut (fun σ' => ∃ (c7 : Bool), base_Key_j2 n5 c7 = some z1 ∧ σ' = ⟨54, [(0, .str p0x0), (23, I (p0x0.length : Int)), (24, I n5), (52, .bool c7)], []⟩) ?_ ?_
          · refine tR <| rM rfl rfl <| ARun.qv (q_geq rfl rfl) rfl <| rM rfl rfl <| ARun.guard_dt rfl rfl rfl (fun hc => ?_) (fun hc => ?_)
            · rw [if_pos hc] at h
              refine rM rfl rfl <| rY rfl rfl rfl <| ARun.qv (q_leq rfl rfl) rfl <| rT rfl rfl rfl <| rM rfl rfl <| ARun.guard_df rfl rfl rfl (fun hc => ?_) (fun hc => ?_)
              · rw [if_neg hc] at h
                refine rM rfl rfl <| rY rfl rfl rfl <| ARun.qv (q_geq rfl rfl) rfl <| rY rfl rfl rfl <| rM rfl rfl <| ARun.guard_dt rfl rfl rfl (fun hc => ?_) (fun hc => ?_)
                · rw [if_pos hc] at h
                  refine rM rfl rfl <| rY rfl rfl rfl <| ARun.qv (q_leq rfl rfl) rfl <| rY rfl rfl rfl <| rT rfl rfl rfl <| rE rfl rfl rfl <| rM rfl rfl <| ARun.guard_df rfl rfl rfl (fun hc => ?_) (fun hc => ?_)
                  · rw [if_neg hc] at h
                    refine rM rfl rfl <| rY rfl rfl rfl <| ARun.qv (q_eql rfl rfl) rfl <| rE rfl rfl rfl <| rM rfl rfl <| ARun.guard_df rfl rfl rfl (fun hc => ?_) (fun hc => ?_)
                    · rw [if_neg hc] at h
                      exact rM rfl rfl <| rY rfl rfl rfl <| ARun.qv (q_eql rfl rfl) rfl <| rE rfl rfl rfl <| ARun.qv (q_not_d rfl) rfl <| rN <| ATodo.stop <| ImpX.lq [] ⟨decide (¬ ((c6.toNat : Int) = (95 : Int))), h, rfl⟩ rfl rfl
                    · rw [if_pos hc] at h
                      exact rG rfl rfl rfl rfl <| rT rfl rfl rfl <| ARun.qv (q_not rfl) rfl <| rN <| ATodo.stop <| ImpX.lq [] ⟨!true, h, rfl⟩ rfl rfl
                  · rw [if_pos hc] at h
                    exact rG rfl rfl rfl rfl <| rT rfl rfl rfl <| rM rfl rfl <| rG rfl rfl rfl rfl <| rG rfl rfl rfl rfl <| rT rfl rfl rfl <| ARun.qv (q_not rfl) rfl <| rN <| ATodo.stop <| ImpX.lq [] ⟨!true, h, rfl⟩ rfl rfl
                · rw [if_neg hc] at h
                  refine rG rfl rfl rfl rfl <| rY rfl rfl rfl <| rE rfl rfl rfl <| rE rfl rfl rfl <| rM rfl rfl <| rY rfl rfl rfl <| rM rfl rfl <| rY rfl rfl rfl <| ARun.qv (q_eql rfl rfl) rfl <| rE rfl rfl rfl <| rM rfl rfl <| ARun.guard_df rfl rfl rfl (fun hc => ?_) (fun hc => ?_)
                  · rw [if_neg hc] at h
                    exact rM rfl rfl <| rY rfl rfl rfl <| ARun.qv (q_eql rfl rfl) rfl <| rE rfl rfl rfl <| ARun.qv (q_not_d rfl) rfl <| rN <| ATodo.stop <| ImpX.lq [] ⟨decide (¬ ((c6.toNat : Int) = (95 : Int))), h, rfl⟩ rfl rfl
                  · rw [if_pos hc] at h
                    exact rG rfl rfl rfl rfl <| rT rfl rfl rfl <| ARun.qv (q_not rfl) rfl <| rN <| ATodo.stop <| ImpX.lq [] ⟨!true, h, rfl⟩ rfl rfl
              · rw [if_pos hc] at h
                exact rG rfl rfl rfl rfl <| rG rfl rfl rfl rfl <| ARun.guard_und rfl rfl rfl <| ARun.guard_und rfl rfl rfl <| rG rfl rfl rfl rfl <| rT rfl rfl rfl <| rM rfl rfl <| rG rfl rfl rfl rfl <| rG rfl rfl rfl rfl <| rT rfl rfl rfl <| rM rfl rfl <| rG rfl rfl rfl rfl <| rG rfl rfl rfl rfl <| rT rfl rfl rfl <| ARun.qv (q_not rfl) rfl <| rN <| ATodo.stop <| ImpX.lq [] ⟨!true, h, rfl⟩ rfl rfl
            · rw [if_neg hc] at h
              refine rG rfl rfl rfl rfl <| rE rfl rfl rfl <| rM rfl rfl <| rY rfl rfl rfl <| rM rfl rfl <| rY rfl rfl rfl <| ARun.qv (q_geq rfl rfl) rfl <| rY rfl rfl rfl <| rM rfl rfl <| ARun.guard_dt rfl rfl rfl (fun hc => ?_) (fun hc => ?_)
              · rw [if_pos hc] at h
                refine rM rfl rfl <| rY rfl rfl rfl <| ARun.qv (q_leq rfl rfl) rfl <| rY rfl rfl rfl <| rT rfl rfl rfl <| rE rfl rfl rfl <| rM rfl rfl <| ARun.guard_df rfl rfl rfl (fun hc => ?_) (fun hc => ?_)
                · rw [if_neg hc] at h
                  refine rM rfl rfl <| rY rfl rfl rfl <| ARun.qv (q_eql rfl rfl) rfl <| rE rfl rfl rfl <| rM rfl rfl <| ARun.guard_df rfl rfl rfl (fun hc => ?_) (fun hc => ?_)
                  · rw [if_neg hc] at h
                    exact rM rfl rfl <| rY rfl rfl rfl <| ARun.qv (q_eql rfl rfl) rfl <| rE rfl rfl rfl <| ARun.qv (q_not_d rfl) rfl <| rN <| ATodo.stop <| ImpX.lq [] ⟨decide (¬ ((c6.toNat : Int) = (95 : Int))), h, rfl⟩ rfl rfl
                  · rw [if_pos hc] at h
                    exact rG rfl rfl rfl rfl <| rT rfl rfl rfl <| ARun.qv (q_not rfl) rfl <| rN <| ATodo.stop <| ImpX.lq [] ⟨!true, h, rfl⟩ rfl rfl
                · rw [if_pos hc] at h
                  exact rG rfl rfl rfl rfl <| rT rfl rfl rfl <| rM rfl rfl <| rG rfl rfl rfl rfl <| rG rfl rfl rfl rfl <| rT rfl rfl rfl <| ARun.qv (q_not rfl) rfl <| rN <| ATodo.stop <| ImpX.lq [] ⟨!true, h, rfl⟩ rfl rfl
              · rw [if_neg hc] at h
                refine rG rfl rfl rfl rfl <| rY rfl rfl rfl <| rE rfl rfl rfl <| rE rfl rfl rfl <| rM rfl rfl <| rY rfl rfl rfl <| rM rfl rfl <| rY rfl rfl rfl <| ARun.qv (q_eql rfl rfl) rfl <| rE rfl rfl rfl <| rM rfl rfl <| ARun.guard_df rfl rfl rfl (fun hc => ?_) (fun hc => ?_)
                · rw [if_neg hc] at h
                  exact rM rfl rfl <| rY rfl rfl rfl <| ARun.qv (q_eql rfl rfl) rfl <| rE rfl rfl rfl <| ARun.qv (q_not_d rfl) rfl <| rN <| ATodo.stop <| ImpX.lq [] ⟨decide (¬ ((c6.toNat : Int) = (95 : Int))), h, rfl⟩ rfl rfl
                · rw [if_pos hc] at h
                  exact rG rfl rfl rfl rfl <| rT rfl rfl rfl <| ARun.qv (q_not rfl) rfl <| rN <| ATodo.stop <| ImpX.lq [] ⟨!true, h, rfl⟩ rfl rfl
          · rintro σ' ⟨c7, h, rfl⟩
            unfold base_Key_j2 at h
            refine ATodo.cond rfl (fun hc => ?_) (fun hc => ?_)
            · refine have h := iteT hc h; tSR <| rA rfl rfl <| rN <| ATodo.ret <| have h := outL h hA1; ?_
              obtain rfl := Option.some.inj h
              exact ImpX.here ⟨_, .cons (.tmp _ _ rfl) .nil, rfl⟩
            · refine have h := iteFb hc h; tK <| ATodo.blk <| tR <| ARun.qv (q_addw rfl rfl) rfl <| rM rfl rfl <| rN <| ATodo.stop <| ?_
              obtain rfl := Option.some.inj h
              exact hJ1 _ _ rfl <| ImpX.lq [] rfl rfl rfl
        · refine have h := iteF hc h; ATodo.exit rfl <| have h := outL h hA1; tSR <| rA rfl rfl <| rN <| ATodo.ret <| ?_
          obtain rfl := Option.some.inj h
          exact ImpX.here ⟨_, .cons (.tmp _ _ rfl) .nil, rfl⟩

set_option maxHeartbeats 4000000 in
theorem base_Unmarked_c {p0x0 : Str} {r : Bool} (h : base_Unmarked p0x0 = some r) : Pu Tryd.prog 143 [.str p0x0] (.bool r) := by
  unfold base_Unmarked at h
  refine ACall.bodyN Tryd.func143 rfl Tryd.ntmps143 Tryd.results143 rfl rfl ?_
  refine tSR <| rA rfl rfl <| rN <| tS <| tSR <| rM rfl rfl <| ARun.qv (q_len_str rfl) rfl <| rM rfl rfl <| rN <| ATodo.block <| ATodo.loopI (fun x : Int => base_Unmarked_b1 p0x0 x) (fun x σ' => σ' = ⟨22, [(0, .str p0x0), (5, I (p0x0.length : Int)), (6, I x)], []⟩) h ?_ ?_
  · exact ImpX.lq [] rfl rfl rfl
  · intro n2 z1 σ' J1 hmk h hJ1 hA1
    obtain rfl := hmk
    replace h : base_Unmarked_b1 p0x0 n2 = some z1 := h
    unfold base_Unmarked_b1 at h
    refine tSR <| ARun.qv (q_lss rfl rfl) rfl <| rN <| tS <| ATodo.cond_d rfl (fun hc => ?_) (fun hc => ?_)
    · refine have h := iteT hc h; tK <| tS <| ATodo.block <| tSR <| rM rfl rfl <| rA rfl rfl <| rN <| tS <| ATodo.cut (fun σ' => ∃ (c3 : Bool), base_Unmarked_j1 n2 c3 = some z1 ∧ σ' = ⟨22, [(0, .str p0x0), (5, I (p0x0.length : Int)), (6, I n2), (18, .bool c3)], []⟩) ?_ ?_
      · refine tR <| rM rfl rfl <| rM rfl rfl <| bndE h fun c4 e1 h => ARun.qv (t_index_str rfl rfl e1) rfl <| ARun.qv (q_lss rfl rfl) rfl <| rM rfl rfl <| ARun.guard_df rfl rfl rfl (fun hc => ?_) (fun hc => ?_)
        · exact have h := iteF hc h; rM rfl rfl <| rY rfl rfl rfl <| rM rfl rfl <| rY rfl rfl rfl <| bndE h fun c5 e2 h => ARun.qv (t_index_str rfl rfl e2) rfl <| rY rfl rfl rfl <| ARun.qv (q_eql rfl rfl) rfl <| rE rfl rfl rfl <| rN <| ATodo.stop <| ImpX.lq [] ⟨decide ((c5.toNat : Int) = (127 : Int)), h, rfl⟩ rfl rfl
        · exact have h := iteT hc h; rG rfl rfl rfl rfl <| rG rfl rfl rfl rfl <| rG rfl rfl rfl rfl <| rT rfl rfl rfl <| rN <| ATodo.stop <| ImpX.lq [] ⟨true, h, rfl⟩ rfl rfl
      · rintro σ' ⟨c3, h, rfl⟩
        unfold base_Unmarked_j1 at h
        refine ATodo.cond rfl (fun hc => ?_) (fun hc => ?_)
        · refine have h := iteT hc h; tSR <| rA rfl rfl <| rN <| ATodo.ret <| have h := outL h hA1; ?_
          obtain rfl := Option.some.inj h
          exact ImpX.here ⟨_, .cons (.tmp _ _ rfl) .nil, rfl⟩
        · refine have h := iteFb hc h; tK <| ATodo.blk <| tR <| ARun.qv (q_addw rfl rfl) rfl <| rM rfl rfl <| rN <| ATodo.stop <| ?_
          obtain rfl := Option.some.inj h
          exact hJ1 _ _ rfl <| ImpX.lq [] rfl rfl rfl
    · refine have h := iteF hc h; ATodo.exit rfl <| have h := outL h hA1; ?_
      unfold base_Unmarked_k2 at h
      refine tSR <| rM rfl rfl <| bndE h fun v6 e3 h => r_callp rfl (utf8_ValidString_c e3) (CoL.refl _) rfl <| rA rfl rfl <| rN <| ATodo.ret <| ?_
      obtain rfl := Option.some.inj h
      exact ImpX.here ⟨_, .cons (.tmp _ _ rfl) .nil, rfl⟩

set_option maxHeartbeats 4000000 in
theorem base_Out_c [GI : GTab] {p0x0 : Int} {p1x0 : Int} {p2x0 : Int} {r : Bool} (h : base_Out p0x0 p1x0 p2x0 = r) : Pu Tryd.prog 66 [I p0x0, I p1x0, I p2x0] (.bool r) := by
  unfold base_Out at h
  refine ACall.bodyN Tryd.func66 rfl Tryd.ntmps66 Tryd.results66 rfl rfl ?_
  refine tSR <| rA rfl rfl <| rN <| tS <| ATodo.cut (fun σ' => ∃ (c1 : Bool), base_Out_j1 c1 = r ∧ σ' = ⟨15, [(6, .bool c1)], []⟩) ?_ ?_
  · refine tR <| rM rfl rfl <| rM rfl rfl <| ARun.qv (q_lss rfl rfl) rfl <| rM rfl rfl <| ARun.guard_df rfl rfl rfl (fun hc => ?_) (fun hc => ?_)
    · rw [orFd hc] at h
      exact rM rfl rfl <| rY rfl rfl rfl <| rM rfl rfl <| rY rfl rfl rfl <| ARun.qv (q_gtr rfl rfl) rfl <| rE rfl rfl rfl <| rA rfl rfl <| rN <| ATodo.stop <| ImpX.lq [] ⟨decide (p2x0 < p0x0), h, rfl⟩ rfl rfl
    · rw [orTd hc] at h
      exact rG rfl rfl rfl rfl <| rG rfl rfl rfl rfl <| rT rfl rfl rfl <| rA rfl rfl <| rN <| ATodo.stop <| ImpX.lq [] ⟨true, h, rfl⟩ rfl rfl
  · rintro σ' ⟨c1, h, rfl⟩
    unfold base_Out_j1 at h
    refine ATodo.ret <| ?_
    obtain rfl := h
    exact ImpX.here ⟨_, .cons (.tmp _ _ rfl) .nil, rfl⟩

set_option maxHeartbeats 4000000 in
theorem base_Moment_c [GI : GTab] {p0x0 : Int} {r : Bool} (h : base_Moment p0x0 = r) : Pu Tryd.prog 84 [I p0x0] (.bool r) := by
  unfold base_Moment at h
  refine ACall.bodyN Tryd.func84 rfl Tryd.ntmps84 Tryd.results84 rfl rfl ?_
  refine tSR <| rA rfl rfl <| rN <| tSR <| rM rfl rfl <| r_callp rfl (base_Out_c rfl) (CoL.refl _) rfl <| ARun.qv (q_not rfl) rfl <| rA rfl rfl <| rN <| ATodo.ret <| ?_
  obtain rfl := h
  exact ImpX.here ⟨_, .cons (.tmp _ _ rfl) .nil, rfl⟩

set_option maxHeartbeats 4000000 in
theorem command_CheckLetter_c {p0x0 : Letter} {r : Int} (h : command_CheckLetter p0x0 = some r) : Pu Tryd.prog 83 [.agg [.str p0x0.Id, .str p0x0.Slot, .str p0x0.Body, I p0x0.Prio, I p0x0.At, I p0x0.Until]] (I r) := by
  unfold command_CheckLetter at h
  refine ACall.bodyN Tryd.func83 rfl Tryd.ntmps83 Tryd.results83 rfl rfl ?_
  refine tSR <| n_box rfl rfl rfl rfl fun b1 => rA rfl rfl <| rN <| tS <| ATodo.block <| tS <| ATodo.cut (fun σ' => ∃ (c2 : Bool), command_CheckLetter_j1 p0x0 c2 = some r ∧ σ' = ⟨51, [(1, .ptr b1 0), (3, .bool c2)], [(b1, .cells [.str p0x0.Id, .str p0x0.Slot, .str p0x0.Body, I p0x0.Prio, I p0x0.At, I p0x0.Until])]⟩) ?_ ?_
  · refine tR <| rF rfl rfl rfl <| rL rfl rfl .p0 rfl rfl <| bndE h fun v3 e1 h => r_callp rfl (base_Key_c e1) (CoL.refl _) rfl <| ARun.qv (q_not rfl) rfl <| rM rfl rfl <| ARun.guard rfl rfl rfl (fun hc => ?_) (fun hc => ?_)
    · refine have h := iteFb hc h; rF rfl rfl rfl <| rY rfl rfl rfl <| rL rfl rfl .p0 rfl rfl <| rY rfl rfl rfl <| ARun.qv (q_sne rfl rfl) rfl <| rY rfl rfl rfl <| rM rfl rfl <| ARun.guard_dt rfl rfl rfl (fun hc => ?_) (fun hc => ?_)
      · exact have h := iteT hc h; rF rfl rfl rfl <| rY rfl rfl rfl <| rL rfl rfl .p0 rfl rfl <| rY rfl rfl rfl <| bndE h fun v4 e2 h => r_callp rfl (base_Key_c e2) (CoL.refl _) rfl <| rY rfl rfl rfl <| ARun.qv (q_not rfl) rfl <| rY rfl rfl rfl <| rT rfl rfl rfl <| rE rfl rfl rfl <| rA rfl rfl <| rN <| ATodo.stop <| ImpX.lq [0] ⟨!v4, h, rfl⟩ rfl rfl
      · exact have h := iteF hc h; rG rfl rfl rfl rfl <| rG rfl rfl rfl rfl <| rG rfl rfl rfl rfl <| rY rfl rfl rfl <| rE rfl rfl rfl <| rE rfl rfl rfl <| rA rfl rfl <| rN <| ATodo.stop <| ImpX.lq [0] ⟨false, h, rfl⟩ rfl rfl
    · exact have h := iteT hc h; rG rfl rfl rfl rfl <| rG rfl rfl rfl rfl <| rG rfl rfl rfl rfl <| ARun.guard_und rfl rfl rfl <| ARun.guard_und rfl rfl rfl <| ARun.guard_und rfl rfl rfl <| ARun.guard_und rfl rfl rfl <| rG rfl rfl rfl rfl <| rT rfl rfl rfl <| rA rfl rfl <| rN <| ATodo.stop <| ImpX.lq [0] ⟨true, h, rfl⟩ rfl rfl
  · rintro σ' ⟨c2, h, rfl⟩
    unfold command_CheckLetter_j1 at h
    refine ATodo.cond rfl (fun hc => ?_) (fun hc => ?_)
    · refine have h := iteT hc h; tSR <| rA rfl rfl <| rN <| ATodo.ret <| ?_
      obtain rfl := Option.some.inj h
      exact ImpX.here ⟨_, .cons (.tmp _ _ rfl) .nil, rfl⟩
    · refine have h := iteFb hc h; tSR <| rF rfl rfl rfl <| rL rfl rfl .p0 rfl rfl <| ARun.qv (q_len_str rfl) rfl <| ARun.qv (q_gtr rfl rfl) rfl <| rA rfl rfl <| rN <| ATodo.cond_d rfl (fun hc => ?_) (fun hc => ?_)
      · refine have h := iteT hc h; tSR <| rA rfl rfl <| rN <| ATodo.ret <| ?_
        obtain rfl := Option.some.inj h
        exact ImpX.here ⟨_, .cons (.tmp _ _ rfl) .nil, rfl⟩
      · refine have h := iteF hc h; tSR <| rF rfl rfl rfl <| rL rfl rfl .p0 rfl rfl <| bndE h fun v5 e3 h => r_callp rfl (base_Unmarked_c e3) (CoL.refl _) rfl <| ARun.qv (q_not rfl) rfl <| rA rfl rfl <| rN <| ATodo.cond rfl (fun hc => ?_) (fun hc => ?_)
        · refine have h := iteT hc h; tSR <| rA rfl rfl <| rN <| ATodo.ret <| ?_
          obtain rfl := Option.some.inj h
          exact ImpX.here ⟨_, .cons (.tmp _ _ rfl) .nil, rfl⟩
        · refine have h := iteFb hc h; tS <| ATodo.cut (fun σ' => ∃ (c6 : Bool), command_CheckLetter_j2 c6 = some r ∧ σ' = ⟨51, [(29, .bool c6)], []⟩) ?_ ?_
          · refine tR <| rF rfl rfl rfl <| rL rfl rfl .p0 rfl rfl <| r_callp rfl (base_Out_c rfl) (CoL.refl _) rfl <| rM rfl rfl <| ARun.guard rfl rfl rfl (fun hc => ?_) (fun hc => ?_)
            · rw [orFb hc] at h
              refine rF rfl rfl rfl <| rY rfl rfl rfl <| rL rfl rfl .p0 rfl rfl <| rY rfl rfl rfl <| r_callp rfl (base_Moment_c rfl) (CoL.refl _) rfl <| rY rfl rfl rfl <| ARun.qv (q_not rfl) rfl <| rE rfl rfl rfl <| rM rfl rfl <| ARun.guard rfl rfl rfl (fun hc => ?_) (fun hc => ?_)
              · rw [orFb hc] at h
                refine rF rfl rfl rfl <| rY rfl rfl rfl <| rL rfl rfl .p0 rfl rfl <| rY rfl rfl rfl <| rF rfl rfl rfl <| rY rfl rfl rfl <| rL rfl rfl .p0 rfl rfl <| rY rfl rfl rfl <| ARun.qv (q_leq rfl rfl) rfl <| rE rfl rfl rfl <| rM rfl rfl <| ARun.guard_df rfl rfl rfl (fun hc => ?_) (fun hc => ?_)
                · rw [orFd hc] at h
                  exact rF rfl rfl rfl <| rY rfl rfl rfl <| rL rfl rfl .p0 rfl rfl <| rY rfl rfl rfl <| ARun.qv (q_gtr rfl rfl) rfl <| rE rfl rfl rfl <| rA rfl rfl <| rN <| ATodo.stop <| ImpX.lq [] ⟨decide ((345686400000 : Int) < p0x0.Until), h, rfl⟩ rfl rfl
                · rw [orTd hc] at h
                  exact rG rfl rfl rfl rfl <| rG rfl rfl rfl rfl <| rT rfl rfl rfl <| rA rfl rfl <| rN <| ATodo.stop <| ImpX.lq [] ⟨true, h, rfl⟩ rfl rfl
              · rw [orTb hc] at h
                exact rG rfl rfl rfl rfl <| rG rfl rfl rfl rfl <| rG rfl rfl rfl rfl <| rG rfl rfl rfl rfl <| rT rfl rfl rfl <| rM rfl rfl <| rG rfl rfl rfl rfl <| rG rfl rfl rfl rfl <| rG rfl rfl rfl rfl <| rT rfl rfl rfl <| rA rfl rfl <| rN <| ATodo.stop <| ImpX.lq [] ⟨true, h, rfl⟩ rfl rfl
            · rw [orTb hc] at h
              exact rG rfl rfl rfl rfl <| rG rfl rfl rfl rfl <| rG rfl rfl rfl rfl <| rT rfl rfl rfl <| rM rfl rfl <| rG rfl rfl rfl rfl <| rG rfl rfl rfl rfl <| rG rfl rfl rfl rfl <| rG rfl rfl rfl rfl <| rG rfl rfl rfl rfl <| rT rfl rfl rfl <| rM rfl rfl <| rG rfl rfl rfl rfl <| rG rfl rfl rfl rfl <| rG rfl rfl rfl rfl <| rT rfl rfl rfl <| rA rfl rfl <| rN <| ATodo.stop <| ImpX.lq [] ⟨true, h, rfl⟩ rfl rfl
          · rintro σ' ⟨c6, h, rfl⟩
            unfold command_CheckLetter_j2 at h
            refine ATodo.cond rfl (fun hc => ?_) (fun hc => ?_)
            · refine have h := iteT hc h; tSR <| rA rfl rfl <| rN <| ATodo.ret <| ?_
              obtain rfl := Option.some.inj h
              exact ImpX.here ⟨_, .cons (.tmp _ _ rfl) .nil, rfl⟩
            · refine have h := iteFb hc h; tK <| ATodo.blk <| tSR <| rA rfl rfl <| rN <| ATodo.ret <| ?_
              obtain rfl := Option.some.inj h
              exact ImpX.here ⟨_, .cons (.tmp _ _ rfl) .nil, rfl⟩

set_option maxHeartbeats 4000000 in
theorem command_CheckNotes_c {p0x0 : List Note} {r : Int} (h : command_CheckNotes p0x0 = some r) : Pu Tryd.prog 30 [.list 9 (p0x0.map Note.av)] (I r) := by
  unfold command_CheckNotes at h
  refine ACall.bodyN Tryd.func30 rfl Tryd.ntmps30 Tryd.results30 rfl rfl ?_
  refine tSR <| rA rfl rfl <| rN <| tS <| tSR <| rM rfl rfl <| ARun.qv (t_len rfl) rfl <| ARun.qv (q_gtr rfl rfl) rfl <| rN <| ATodo.cond_d rfl (fun hc => ?_) (fun hc => ?_)
  · refine have h := iteT hc h; tSR <| rA rfl rfl <| rN <| ATodo.ret <| ?_
    obtain rfl := Option.some.inj h
    exact ImpX.here ⟨_, .cons (.tmp _ _ rfl) .nil, rfl⟩
  · refine have h := iteF hc h; tK <| tS <| tSR <| rM rfl rfl <| ARun.qv (t_len rfl) rfl <| rM rfl rfl <| rN <| ATodo.block <| ATodo.loopI (fun x : Int => command_CheckNotes_b1 p0x0 x) (fun x σ' => σ' = ⟨53, [(0, .list 9 (p0x0.map Note.av)), (9, .list 9 (p0x0.map Note.av)), (10, I (p0x0.length : Int)), (11, I x)], []⟩) h ?_ ?_
    · exact ImpX.lq [] rfl rfl rfl
    · intro n2 z1 σ' J1 hmk h hJ1 hA1
      obtain rfl := hmk
      replace h : command_CheckNotes_b1 p0x0 n2 = some z1 := h
      unfold command_CheckNotes_b1 at h
      refine tSR <| ARun.qv (q_lss rfl rfl) rfl <| rN <| tS <| ATodo.cond_d rfl (fun hc => ?_) (fun hc => ?_)
      · refine have h := iteT hc h; tK <| tS <| ATodo.block <| tSR <| rM rfl rfl <| bndE h fun v3 e1 h => ARun.qv (t_index rfl rfl rfl e1 rfl rfl) rfl <| ARun.qv (q_load_rptr_agg rfl rfl rfl) rfl <| n_alloc rfl rfl rfl rfl fun b4 => rA rfl rfl <| n_store_ptr rfl rfl rfl rfl .p0 rfl rfl <| rN <| tS <| tSR <| rF rfl rfl rfl <| ARun.qv (n_load_ptr_part rfl rfl .p0 rfl rfl) rfl <| bndE h fun v5 e2 h => r_callp rfl (command_CheckLetter_c e2) (CoL.refl _) rfl <| rA rfl rfl <| rN <| tSR <| rM rfl rfl <| ARun.qv (q_neq rfl rfl) rfl <| rN <| ATodo.cond_d rfl (fun hc => ?_) (fun hc => ?_)
        · refine have h := iteT hc h; tSR <| rM rfl rfl <| rA rfl rfl <| rN <| ATodo.ret <| have h := outL h hA1; ?_
          obtain rfl := Option.some.inj h
          exact ImpX.here ⟨_, .cons (.tmp _ _ rfl) .nil, rfl⟩
        · refine have h := iteF hc h; tK <| ATodo.block <| tSR <| rF rfl rfl rfl <| rL rfl rfl .p0 rfl rfl <| r_callp rfl (base_Out_c rfl) (CoL.refl _) rfl <| rA rfl rfl <| rN <| ATodo.cond rfl (fun hc => ?_) (fun hc => ?_)
          · refine have h := iteT hc h; tSR <| rA rfl rfl <| rN <| ATodo.ret <| have h := outL h hA1; ?_
            obtain rfl := Option.some.inj h
            exact ImpX.here ⟨_, .cons (.tmp _ _ rfl) .nil, rfl⟩
          · refine have h := iteFb hc h; tS <| ATodo.cut (fun σ' => ∃ (c6 : Bool), command_CheckNotes_j1 p0x0 n2 v3 c6 = some z1 ∧ σ' = ⟨53, [(0, .list 9 (p0x0.map Note.av)), (3, I n2), (4, .ptr b4 0), (9, .list 9 (p0x0.map Note.av)), (10, I (p0x0.length : Int)), (11, I n2), (26, .bool c6)], [(b4, .cells [.str v3.Letter.Id, .str v3.Letter.Slot, .str v3.Letter.Body, I v3.Letter.Prio, I v3.Letter.At, I v3.Letter.Until, I v3.State, I v3.Tries, I v3.Since])]⟩) ?_ ?_
            · refine tR <| rF rfl rfl rfl <| rL rfl rfl .p0 rfl rfl <| r_callp rfl (base_Out_c rfl) (CoL.refl _) rfl <| rM rfl rfl <| ARun.guard rfl rfl rfl (fun hc => ?_) (fun hc => ?_)
              · rw [orFb hc] at h
                exact rF rfl rfl rfl <| rY rfl rfl rfl <| rL rfl rfl .p0 rfl rfl <| rY rfl rfl rfl <| r_callp rfl (base_Moment_c rfl) (CoL.refl _) rfl <| rY rfl rfl rfl <| ARun.qv (q_not rfl) rfl <| rE rfl rfl rfl <| rA rfl rfl <| rN <| ATodo.stop <| ImpX.lq [0] ⟨!(base_Moment v3.Since), h, rfl⟩ rfl rfl
              · rw [orTb hc] at h
                exact rG rfl rfl rfl rfl <| rG rfl rfl rfl rfl <| rG rfl rfl rfl rfl <| rT rfl rfl rfl <| rA rfl rfl <| rN <| ATodo.stop <| ImpX.lq [0] ⟨true, h, rfl⟩ rfl rfl
            · rintro σ' ⟨c6, h, rfl⟩
              unfold command_CheckNotes_j1 at h
              refine ATodo.cond rfl (fun hc => ?_) (fun hc => ?_)
              · refine have h := iteT hc h; tSR <| rA rfl rfl <| rN <| ATodo.ret <| have h := outL h hA1; ?_
                obtain rfl := Option.some.inj h
                exact ImpX.here ⟨_, .cons (.tmp _ _ rfl) .nil, rfl⟩
              · refine have h := iteFb hc h; tS <| ATodo.cut (fun σ' => ∃ (c7 : Bool), command_CheckNotes_j2 n2 c7 = some z1 ∧ σ' = ⟨53, [(0, .list 9 (p0x0.map Note.av)), (9, .list 9 (p0x0.map Note.av)), (10, I (p0x0.length : Int)), (11, I n2), (36, .bool c7)], []⟩) ?_ ?_
                · refine ATodo.regionM (id := 13) (A := [0, 1, 3, 7, 15, 31, 7, 7, 135, 455, 967, 1991, 4039, 8191, 16383, 32767]) 16 mixed rfl (by kernel_rfl) (by kernel_rfl) <| AM.qv (q_move rfl) rfl <| AM.qv (q_gtr rfl rfl) rfl <| AM.qv (q_move rfl) rfl <| AM.guard_dt rfl rfl rfl (fun hc => ?_) (fun hc => ?_)
                  · exact have h := iteT hc h; AM.qv (n_field_ptr rfl rfl) rfl <| AM.guard_yes rfl rfl rfl <| AM.qv (n_field_ptr rfl rfl) rfl <| AM.guard_yes rfl rfl rfl <| AM.qv (q_load_ptr rfl rfl .p0 rfl) rfl <| AM.guard_yes rfl rfl rfl <| AM.qv (q_move rfl) rfl <| AM.guard_yes rfl rfl rfl <| AM.qv (q_move rfl) rfl <| AM.guard_yes rfl rfl rfl <| AM.qv (q_subw rfl rfl) rfl <| AM.guard_yes rfl rfl rfl <| bndE h fun v8 e3 h => AM.qv (t_index rfl rfl rfl e3 rfl rfl) rfl <| AM.guard_yes rfl rfl rfl <| AM.qv (n_field_rptr rfl rfl) rfl <| AM.guard_yes rfl rfl rfl <| AM.qv (n_field_rptr rfl rfl) rfl <| AM.guard_yes rfl rfl rfl <| AM.qv (q_load_rptr rfl rfl rfl) rfl <| AM.guard_yes rfl rfl rfl <| AM.qv (t_sleq rfl rfl) rfl <| AM.qv (q_pick_t rfl rfl) rfl <| AM.qv (q_assign rfl) rfl <| AM.nil <| rN <| ATodo.stop <| ImpX.lq [] ⟨Op.bytesLess v3.Letter.Id v8.Letter.Id || v3.Letter.Id == v8.Letter.Id, h, rfl⟩ rfl rfl
                  · exact have h := iteF hc h; AM.guard_no rfl rfl rfl rfl <| AM.guard_no rfl rfl rfl rfl <| AM.guard_no rfl rfl rfl rfl <| AM.guard_no rfl rfl rfl rfl <| AM.guard_no rfl rfl rfl rfl <| AM.guard_no rfl rfl rfl rfl <| AM.guard_no rfl rfl rfl rfl <| AM.guard_no rfl rfl rfl rfl <| AM.guard_no rfl rfl rfl rfl <| AM.guard_no rfl rfl rfl rfl <| AM.qv (q_pick_f rfl rfl) rfl <| AM.qv (q_assign rfl) rfl <| AM.nil <| rN <| ATodo.stop <| ImpX.lq [] ⟨false, h, rfl⟩ rfl rfl
                · rintro σ' ⟨c7, h, rfl⟩
                  unfold command_CheckNotes_j2 at h
                  refine ATodo.cond rfl (fun hc => ?_) (fun hc => ?_)
                  · refine have h := iteT hc h; tSR <| rA rfl rfl <| rN <| ATodo.ret <| have h := outL h hA1; ?_
                    obtain rfl := Option.some.inj h
                    exact ImpX.here ⟨_, .cons (.tmp _ _ rfl) .nil, rfl⟩
                  · refine have h := iteFb hc h; tK <| ATodo.blk <| ATodo.blk <| tR <| ARun.qv (q_addw rfl rfl) rfl <| rM rfl rfl <| rN <| ATodo.stop <| ?_
                    obtain rfl := Option.some.inj h
                    exact hJ1 _ _ rfl <| ImpX.lq [] rfl rfl rfl
      · refine have h := iteF hc h; ATodo.exit rfl <| have h := outL h hA1; tSR <| rA rfl rfl <| rN <| ATodo.ret <| ?_
        obtain rfl := Option.some.inj h
        exact ImpX.here ⟨_, .cons (.tmp _ _ rfl) .nil, rfl⟩

set_option maxHeartbeats 4000000 in
theorem base_First_c [GI : GTab] {p0x0 : List Int} {r : Int} (h : base_First p0x0 = some r) : Pu Tryd.prog 77 [.list 1 (p0x0.map I)] (I r) := by
  unfold base_First at h
  refine ACall.bodyN Tryd.func77 rfl Tryd.ntmps77 Tryd.results77 rfl rfl ?_
  refine tSR <| rA rfl rfl <| rN <| tS <| tSR <| rM rfl rfl <| ARun.qv (t_len rfl) rfl <| rM rfl rfl <| rN <| ATodo.block <| ATodo.loopI (fun x : Int => base_First_b1 p0x0 x) (fun x σ' => σ' = ⟨15, [(5, .list 1 (p0x0.map I)), (6, I (p0x0.length : Int)), (7, I x)], []⟩) h ?_ ?_
  · exact ImpX.lq [] rfl rfl rfl
  · intro n2 z1 σ' J1 hmk h hJ1 hA1
    obtain rfl := hmk
    replace h : base_First_b1 p0x0 n2 = some z1 := h
    unfold base_First_b1 at h
    refine tSR <| ARun.qv (q_lss rfl rfl) rfl <| rN <| tS <| ATodo.cond_d rfl (fun hc => ?_) (fun hc => ?_)
    · refine have h := iteT hc h; tK <| tS <| ATodo.block <| tSR <| bndE h fun v3 e1 h => ARun.qv (t_index rfl rfl rfl e1 rfl rfl) rfl <| ARun.qv (q_load_rptr rfl rfl rfl) rfl <| rA rfl rfl <| rN <| tSR <| rM rfl rfl <| ARun.qv (q_neq rfl rfl) rfl <| rN <| ATodo.cond_d rfl (fun hc => ?_) (fun hc => ?_)
      · refine have h := iteT hc h; tSR <| rM rfl rfl <| rA rfl rfl <| rN <| ATodo.ret <| have h := outL h hA1; ?_
        obtain rfl := Option.some.inj h
        exact ImpX.here ⟨_, .cons (.tmp _ _ rfl) .nil, rfl⟩
      · refine have h := iteF hc h; tK <| ATodo.blk <| tR <| ARun.qv (q_addw rfl rfl) rfl <| rM rfl rfl <| rN <| ATodo.stop <| ?_
        obtain rfl := Option.some.inj h
        exact hJ1 _ _ rfl <| ImpX.lq [] rfl rfl rfl
    · refine have h := iteF hc h; ATodo.exit rfl <| have h := outL h hA1; tSR <| rA rfl rfl <| rN <| ATodo.ret <| ?_
      obtain rfl := Option.some.inj h
      exact ImpX.here ⟨_, .cons (.tmp _ _ rfl) .nil, rfl⟩

set_option maxHeartbeats 4000000 in
theorem slices_Index_int_int_c [GI : GTab] {p0x0 : List Int} {p1x0 : Int} {r : Int} (h : slices_Index_int_int p0x0 p1x0 = some r) : Pu Tryd.prog 181 [.list 1 (p0x0.map I), I p1x0] (I r) := by
  unfold slices_Index_int_int at h
  refine ACall.bodyN Tryd.func181 rfl Tryd.ntmps181 Tryd.results181 rfl rfl ?_
  refine tSR <| rA rfl rfl <| rN <| tS <| tSR <| rM rfl rfl <| ARun.qv (t_len rfl) rfl <| rM rfl rfl <| rN <| ATodo.block <| ATodo.loopI (fun x : Int => slices_Index_int_int_b1 p0x0 p1x0 x) (fun x σ' => σ' = ⟨19, [(0, .list 1 (p0x0.map I)), (1, I p1x0), (7, I (p0x0.length : Int)), (8, I x)], []⟩) h ?_ ?_
  · exact ImpX.lq [] rfl rfl rfl
  · intro n2 z1 σ' J1 hmk h hJ1 hA1
    obtain rfl := hmk
    replace h : slices_Index_int_int_b1 p0x0 p1x0 n2 = some z1 := h
    unfold slices_Index_int_int_b1 at h
    refine tSR <| ARun.qv (q_lss rfl rfl) rfl <| rN <| tS <| ATodo.cond_d rfl (fun hc => ?_) (fun hc => ?_)
    · refine have h := iteT hc h; tK <| tS <| ATodo.block <| tSR <| rM rfl rfl <| rA rfl rfl <| rN <| tSR <| rM rfl rfl <| rM rfl rfl <| rM rfl rfl <| bndE h fun v3 e1 h => ARun.qv (t_index rfl rfl rfl e1 rfl rfl) rfl <| ARun.qv (q_load_rptr rfl rfl rfl) rfl <| ARun.qv (q_eql rfl rfl) rfl <| rN <| ATodo.cond_d rfl (fun hc => ?_) (fun hc => ?_)
      · refine have h := iteT hc h; tSR <| rM rfl rfl <| rA rfl rfl <| rN <| ATodo.ret <| have h := outL h hA1; ?_
        obtain rfl := Option.some.inj h
        exact ImpX.here ⟨_, .cons (.tmp _ _ rfl) .nil, rfl⟩
      · refine have h := iteF hc h; tK <| ATodo.blk <| tR <| ARun.qv (q_addw rfl rfl) rfl <| rM rfl rfl <| rN <| ATodo.stop <| ?_
        obtain rfl := Option.some.inj h
        exact hJ1 _ _ rfl <| ImpX.lq [] rfl rfl rfl
    · refine have h := iteF hc h; ATodo.exit rfl <| have h := outL h hA1; tSR <| rA rfl rfl <| rN <| ATodo.ret <| ?_
      obtain rfl := Option.some.inj h
      exact ImpX.here ⟨_, .cons (.tmp _ _ rfl) .nil, rfl⟩

set_option maxHeartbeats 4000000 in
theorem command_rank_c [GI : GTab] {p0x0 : Int} {r : Int} (h : command_rank p0x0 = some r) : Pu Tryd.prog 140 [I p0x0] (I r) := by
  unfold command_rank at h
  refine ACall.bodyN Tryd.func140 rfl Tryd.ntmps140 Tryd.results140 rfl rfl ?_
  refine tSR <| rA rfl rfl <| rN <| tSR <| n_buildSliceL (xs := ([(6 : Int), (5 : Int), (7 : Int), (4 : Int), (3 : Int)]).map I) rfl rfl rfl rfl rfl rfl <| rM rfl rfl <| bndE h fun v1 e1 h => r_callp rfl (slices_Index_int_int_c e1) (CoL.refl _) rfl <| ARun.qv (q_addw rfl rfl) rfl <| rA rfl rfl <| rN <| ATodo.ret <| ?_
  obtain rfl := Option.some.inj h
  exact ImpX.here ⟨_, .cons (.tmp _ _ rfl) .nil, rfl⟩

set_option maxHeartbeats 4000000 in
theorem cmp_isNaN_int_c [GI : GTab] {p0x0 : Int} {r : Bool} (h : cmp_isNaN_int p0x0 = r) : Pu Tryd.prog 156 [I p0x0] (.bool r) := by
  unfold cmp_isNaN_int at h
  refine ACall.bodyN Tryd.func156 rfl Tryd.ntmps156 Tryd.results156 rfl rfl ?_
  refine tSR <| rA rfl rfl <| rN <| tSR <| rM rfl rfl <| rM rfl rfl <| ARun.qv (q_neq rfl rfl) rfl <| rA rfl rfl <| rN <| ATodo.ret <| ?_
  obtain rfl := h
  exact ImpX.here ⟨_, .cons (.tmp _ _ rfl) .nil, rfl⟩

set_option maxHeartbeats 4000000 in
theorem cmp_Compare_int_c [GI : GTab] {p0x0 : Int} {p1x0 : Int} {r : Int} (h : cmp_Compare_int p0x0 p1x0 = r) : Pu Tryd.prog 105 [I p0x0, I p1x0] (I r) := by
  unfold cmp_Compare_int at h
  refine ACall.bodyN Tryd.func105 rfl Tryd.ntmps105 Tryd.results105 rfl rfl ?_
  refine tSR <| rA rfl rfl <| rN <| tSR <| rM rfl rfl <| r_callp rfl (cmp_isNaN_int_c rfl) (CoL.refl _) rfl <| rA rfl rfl <| rN <| tSR <| rM rfl rfl <| r_callp rfl (cmp_isNaN_int_c rfl) (CoL.refl _) rfl <| rA rfl rfl <| rN <| tS <| tSR <| rM rfl rfl <| rN <| ATodo.cond rfl (fun hc => ?_) (fun hc => ?_)
  · refine have h := iteT hc h; tS <| tSR <| rM rfl rfl <| rN <| ATodo.cond rfl (fun hc => ?_) (fun hc => ?_)
    · refine have h := iteT hc h; tSR <| rA rfl rfl <| rN <| ATodo.ret <| ?_
      obtain rfl := h
      exact ImpX.here ⟨_, .cons (.tmp _ _ rfl) .nil, rfl⟩
    · refine have h := iteFb hc h; tK <| tSR <| rA rfl rfl <| rN <| ATodo.ret <| ?_
      obtain rfl := h
      exact ImpX.here ⟨_, .cons (.tmp _ _ rfl) .nil, rfl⟩
  · refine have h := iteFb hc h; tK <| tS <| tSR <| rM rfl rfl <| rN <| ATodo.cond rfl (fun hc => ?_) (fun hc => ?_)
    · refine have h := iteT hc h; tSR <| rA rfl rfl <| rN <| ATodo.ret <| ?_
      obtain rfl := h
      exact ImpX.here ⟨_, .cons (.tmp _ _ rfl) .nil, rfl⟩
    · refine have h := iteFb hc h; tK <| tS <| tSR <| rM rfl rfl <| rM rfl rfl <| ARun.qv (q_lss rfl rfl) rfl <| rN <| ATodo.cond_d rfl (fun hc => ?_) (fun hc => ?_)
      · refine have h := iteT hc h; tSR <| rA rfl rfl <| rN <| ATodo.ret <| ?_
        obtain rfl := h
        exact ImpX.here ⟨_, .cons (.tmp _ _ rfl) .nil, rfl⟩
      · refine have h := iteF hc h; tK <| tS <| tSR <| rM rfl rfl <| rM rfl rfl <| ARun.qv (q_gtr rfl rfl) rfl <| rN <| ATodo.cond_d rfl (fun hc => ?_) (fun hc => ?_)
        · refine have h := iteT hc h; tSR <| rA rfl rfl <| rN <| ATodo.ret <| ?_
          obtain rfl := h
          exact ImpX.here ⟨_, .cons (.tmp _ _ rfl) .nil, rfl⟩
        · refine have h := iteF hc h; tK <| tSR <| rA rfl rfl <| rN <| ATodo.ret <| ?_
          obtain rfl := h
          exact ImpX.here ⟨_, .cons (.tmp _ _ rfl) .nil, rfl⟩

set_option maxHeartbeats 4000000 in
theorem cmp_Or_int_c [GI : GTab] {p0x0 : List Int} {r : Int} (h : cmp_Or_int p0x0 = some r) : Pu Tryd.prog 104 [.list 1 (p0x0.map I)] (I r) := by
  unfold cmp_Or_int at h
  refine ACall.bodyN Tryd.func104 rfl Tryd.ntmps104 Tryd.results104 rfl rfl ?_
  refine tSR <| rA rfl rfl <| rN <| tSR <| rA rfl rfl <| rN <| tS <| tSR <| rM rfl rfl <| ARun.qv (t_len rfl) rfl <| rM rfl rfl <| rN <| ATodo.block <| ATodo.loopI (fun x : Int => cmp_Or_int_b1 p0x0 x) (fun x σ' => σ' = ⟨18, [(3, I (0 : Int)), (6, .list 1 (p0x0.map I)), (7, I (p0x0.length : Int)), (8, I x)], []⟩) h ?_ ?_
  · exact ImpX.lq [] rfl rfl rfl
  · intro n2 z1 σ' J1 hmk h hJ1 hA1
    obtain rfl := hmk
    replace h : cmp_Or_int_b1 p0x0 n2 = some z1 := h
    unfold cmp_Or_int_b1 at h
    refine tSR <| ARun.qv (q_lss rfl rfl) rfl <| rN <| tS <| ATodo.cond_d rfl (fun hc => ?_) (fun hc => ?_)
    · refine have h := iteT hc h; tK <| tS <| ATodo.block <| tSR <| bndE h fun v3 e1 h => ARun.qv (t_index rfl rfl rfl e1 rfl rfl) rfl <| ARun.qv (q_load_rptr rfl rfl rfl) rfl <| rA rfl rfl <| rN <| tSR <| rM rfl rfl <| rM rfl rfl <| ARun.qv (q_neq rfl rfl) rfl <| rN <| ATodo.cond_d rfl (fun hc => ?_) (fun hc => ?_)
      · refine have h := iteT hc h; tSR <| rM rfl rfl <| rA rfl rfl <| rN <| ATodo.ret <| have h := outL h hA1; ?_
        obtain rfl := Option.some.inj h
        exact ImpX.here ⟨_, .cons (.tmp _ _ rfl) .nil, rfl⟩
      · refine have h := iteF hc h; tK <| ATodo.blk <| tR <| ARun.qv (q_addw rfl rfl) rfl <| rM rfl rfl <| rN <| ATodo.stop <| ?_
        obtain rfl := Option.some.inj h
        exact hJ1 _ _ rfl <| ImpX.lq [] rfl rfl rfl
    · refine have h := iteF hc h; ATodo.exit rfl <| have h := outL h hA1; tSR <| rM rfl rfl <| rA rfl rfl <| rN <| ATodo.ret <| ?_
      obtain rfl := Option.some.inj h
      exact ImpX.here ⟨_, .cons (.tmp _ _ rfl) .nil, rfl⟩

set_option maxHeartbeats 4000000 in
theorem command_further_c [GI : GTab] {p0x0 : Note} {p1x0 : Note} {r : Int} (h : command_further p0x0 p1x0 = some r) : Pu Tryd.prog 79 [.agg [.str p0x0.Letter.Id, .str p0x0.Letter.Slot, .str p0x0.Letter.Body, I p0x0.Letter.Prio, I p0x0.Letter.At, I p0x0.Letter.Until, I p0x0.State, I p0x0.Tries, I p0x0.Since], .agg [.str p1x0.Letter.Id, .str p1x0.Letter.Slot, .str p1x0.Letter.Body, I p1x0.Letter.Prio, I p1x0.Letter.At, I p1x0.Letter.Until, I p1x0.State, I p1x0.Tries, I p1x0.Since]] (I r) := by
  unfold command_further at h
  refine ACall.bodyN Tryd.func79 rfl Tryd.ntmps79 Tryd.results79 rfl rfl ?_
  refine tSR <| n_box rfl rfl rfl rfl fun b1 => n_box rfl rfl rfl rfl fun b2 => rA rfl rfl <| rN <| tS <| ATodo.regionM (id := 1) (A := [0, 1, 3, 0, 8, 31, 63, 0, 128, 0, 512, 2047, 0, 4096, 0, 16384, 65535, 0, 131072, 0, 524288, 2097151, 4194303, 8388607, 16777215]) 25 mixed rfl (by kernel_rfl) (by kernel_rfl) <| AM.qv (n_field_ptr rfl rfl) rfl <| AM.qv (q_load_ptr rfl rfl .p1 rfl) rfl <| bndE h fun v3 e1 h => AM.callp rfl (command_rank_c e1) (CoL.refl _) rfl <| AM.qv (n_field_ptr rfl rfl) rfl <| AM.qv (q_load_ptr rfl rfl .p0 rfl) rfl <| bndE h fun v4 e2 h => AM.callp rfl (command_rank_c e2) (CoL.refl _) rfl <| AM.callp rfl (cmp_Compare_int_c rfl) (CoL.refl _) rfl <| AM.qv (n_field_ptr rfl rfl) rfl <| AM.qv (q_load_ptr rfl rfl .p1 rfl) rfl <| AM.qv (n_field_ptr rfl rfl) rfl <| AM.qv (q_load_ptr rfl rfl .p0 rfl) rfl <| AM.callp rfl (cmp_Compare_int_c rfl) (CoL.refl _) rfl <| AM.qv (n_field_ptr rfl rfl) rfl <| AM.qv (q_load_ptr rfl rfl .p0 rfl) rfl <| AM.qv (n_field_ptr rfl rfl) rfl <| AM.qv (q_load_ptr rfl rfl .p1 rfl) rfl <| AM.callp rfl (cmp_Compare_int_c rfl) (CoL.refl _) rfl <| AM.qv (n_field_ptr rfl rfl) rfl <| AM.qv (q_load_ptr rfl rfl .p0 rfl) rfl <| AM.qv (n_field_ptr rfl rfl) rfl <| AM.qv (q_load_ptr rfl rfl .p1 rfl) rfl <| AM.callp rfl (cmp_Compare_int_c rfl) (CoL.refl _) rfl <| AM.buildSliceL (xs := ([(cmp_Compare_int v3 v4), (cmp_Compare_int p0x0.Tries p1x0.Tries), (cmp_Compare_int p1x0.Since p0x0.Since), (cmp_Compare_int p1x0.State p0x0.State)] : List Int).map I) rfl rfl rfl rfl rfl rfl <| bndE h fun v5 e3 h => AM.callp rfl (cmp_Or_int_c e3) (CoL.refl _) rfl <| AM.qv (q_assign rfl) rfl <| AM.nil <| rN <| ATodo.ret <| ?_
  obtain rfl := Option.some.inj h
  exact ImpX.here ⟨_, .cons (.tmp _ _ rfl) .nil, rfl⟩

set_option maxHeartbeats 4000000 in
theorem slices_Grow_Note_Note_n0x_c [GI : GTab] {p1x0 : Int} {r : (List Note)} (h : slices_Grow_Note_Note_n0x p1x0 = some r) : ACall Tryd.prog 141 [.nil, I p1x0] [] (T1 (fun d_0 => [(d_0, .arr 9 (r.map Note.av))]) (fun d_0 => .sl 9 d_0 0 r.length)) := by
  unfold slices_Grow_Note_Note_n0x at h
  refine ACall.lessH ?_
  refine ACall.bodyN Tryd.func141 rfl Tryd.ntmps141 Tryd.results141 rfl rfl ?_
  refine tSR <| rA rfl rfl <| rN <| tS <| tSR <| rM rfl rfl <| ARun.qv (q_lss rfl rfl) rfl <| rN <| ATodo.cond_d rfl (fun hc => ?_) (fun hc => ?_)
  · refine have h := iteT hc h; tR <| ?_
    cases h
  · refine have h := iteF hc h; tK <| tS <| tSR <| rM rfl rfl <| rM rfl rfl <| ARun.qv (q_cap_nil rfl) rfl <| rM rfl rfl <| ARun.qv (q_len_nil rfl) rfl <| ARun.qv (q_subw rfl rfl) rfl <| ARun.qv (q_subw rfl rfl) rfl <| rA rfl rfl <| rN <| tSR <| rM rfl rfl <| ARun.qv (q_gtr rfl rfl) rfl <| rN <| ATodo.cut (fun σ' => ∃ (b1 : Bk) (l2 : List Note), slices_Grow_Note_Note_n0x_j1 l2 = some r ∧ σ' = ⟨27, [(0, .sl 9 b1 0 l2.length)], [(b1, .arr 9 (l2.map Note.av))]⟩) ?_ ?_
    · refine ATodo.cond_d rfl (fun hc => ?_) (fun hc => ?_)
      · exact have h := iteT hc h; tR <| rM rfl rfl <| rM rfl rfl <| ARun.qv (q_cap_nil rfl) rfl <| bndE h fun l3 e1 h => ARun.qv (t_slice_nil rfl .none (.some _ _ _ rfl) rfl rfl e1) rfl <| rM rfl rfl <| bndE h fun l4 e2 h => t_appendZ (g := Note.av) (Z := (⟨(⟨[], [], [], (0 : Int), (0 : Int), (0 : Int)⟩ : Letter), (0 : Int), (0 : Int), (0 : Int)⟩ : Note)) rfl rfl rfl rfl rfl rfl rfl rfl rfl e2 fun b5 => rM rfl rfl <| ARun.qv (q_len_nil rfl) rfl <| bndE h fun l6 e3 h => ARun.qv (t_slice_sl rfl rfl .none (.some _ _ _ rfl) rfl rfl e3) rfl <| rA rfl rfl <| ARun.ghost <| ImpX.takeT e3 .p0 <| ImpX.here <| rN <| ATodo.stop <| ImpX.lq [0] ⟨b5, l6, h, rfl⟩ rfl rfl
      · exact have h := iteF hc h; tK <| ATodo.stop <| ImpX.arr (s := 0) 9 rfl fun b7 => ImpX.lq [0] ⟨b7, [], h, rfl⟩ rfl rfl
    · rintro σ' ⟨b1, l2, h, rfl⟩
      unfold slices_Grow_Note_Note_n0x_j1 at h
      refine tSR <| rM rfl rfl <| rA rfl rfl <| rN <| ATodo.ret <| ?_
      obtain rfl := Option.some.inj h
      exact ImpX.here ⟨_, .cons (.tmp _ _ rfl) .nil, _, .cons .p0 .nil, ⟨b1, rfl, rfl⟩⟩

set_option maxHeartbeats 4000000 in
theorem slices_Concat_Note_Note_c [GI : GTab] {p0x0 : List (List Note)} {r : (List Note)} (h : slices_Concat_Note_Note p0x0 = some r) : ACall Tryd.prog 80 [.list 1 (p0x0.map (encL 9 Note.av))] [] (T1 (fun d_0 => [(d_0, .arr 9 (r.map Note.av))]) (fun d_0 => .sl 9 d_0 0 r.length)) := by
  unfold slices_Concat_Note_Note at h
  refine ACall.lessH ?_
  refine ACall.bodyN Tryd.func80 rfl Tryd.ntmps80 Tryd.results80 rfl rfl ?_
  refine tSR <| rA rfl rfl <| rN <| tSR <| rA rfl rfl <| rN <| tS <| tSR <| rM rfl rfl <| ARun.qv (t_len rfl) rfl <| rM rfl rfl <| rN <| ATodo.block <| ATodo.loopI (fun x : Int × Int => slices_Concat_Note_Note_b1 p0x0 x.1 x.2) (fun x σ' => σ' = ⟨36, [(0, .list 1 (p0x0.map (encL 9 Note.av))), (3, I x.1), (9, .list 1 (p0x0.map (encL 9 Note.av))), (10, I (p0x0.length : Int)), (11, I x.2)], []⟩) h ?_ ?_
  · exact ImpX.lq [] rfl rfl rfl
  · intro x z1 σ' J1 hmk h hJ1 hA1
    obtain ⟨n3, n4⟩ := x
    obtain rfl := hmk
    replace h : slices_Concat_Note_Note_b1 p0x0 n3 n4 = some z1 := h
    unfold slices_Concat_Note_Note_b1 at h
    refine tSR <| ARun.qv (q_lss rfl rfl) rfl <| rN <| tS <| ATodo.cond_d rfl (fun hc => ?_) (fun hc => ?_)
    · refine have h := iteT hc h; tK <| tS <| ATodo.block <| tSR <| bndE h fun v5 e1 h => ARun.qv (t_index rfl rfl rfl e1 rfl rfl) rfl <| ARun.qv (q_load_rptr rfl rfl rfl) rfl <| rA rfl rfl <| rN <| tSR <| rM rfl rfl <| rM rfl rfl <| ARun.qv (t_len rfl) rfl <| ARun.qv (q_addw rfl rfl) rfl <| rA rfl rfl <| rN <| tSR <| rM rfl rfl <| ARun.qv (q_lss rfl rfl) rfl <| rN <| ATodo.cond_d rfl (fun hc => ?_) (fun hc => ?_)
      · refine have h := iteT hc h; tR <| ?_
        cases h
      · refine have h := iteF hc h; tK <| ATodo.blk <| tR <| ARun.qv (q_addw rfl rfl) rfl <| rM rfl rfl <| rN <| ATodo.stop <| ?_
        obtain rfl := Option.some.inj h
        exact hJ1 _ _ rfl <| ImpX.lq [] rfl rfl rfl
    · refine have h := iteF hc h; ATodo.exit rfl <| have h := outL h hA1; ?_
      unfold slices_Concat_Note_Note_k1 at h
      refine tSR <| rM rfl rfl <| bndE h fun v6 e2 h => t_call1 rfl (slices_Grow_Note_Note_n0x_c e2) (CoL.refl _) .nil (fun _ => rfl) rfl fun b7 => rA rfl rfl <| rN <| tS <| tSR <| rM rfl rfl <| ARun.qv (t_len rfl) rfl <| rM rfl rfl <| rN <| ATodo.block <| ATodo.loopI (fun x : (List Note) × Int => slices_Concat_Note_Note_b2 p0x0 x.1 x.2) (fun x σ' => ∃ (b11 : Bk), σ' = ⟨36, [(6, .sl 9 b11 0 x.1.length), (25, .list 1 (p0x0.map (encL 9 Note.av))), (26, I (p0x0.length : Int)), (27, I x.2)], [(b11, .arr 9 (x.1.map Note.av))]⟩) h ?_ ?_
      · exact ImpX.lq [0] ⟨b7, rfl⟩ rfl rfl
      · intro x z2 σ' J2 hmk h hJ2 hA2
        obtain ⟨l12, n13⟩ := x
        obtain ⟨b11, rfl⟩ := hmk
        replace h : slices_Concat_Note_Note_b2 p0x0 l12 n13 = some z2 := h
        unfold slices_Concat_Note_Note_b2 at h
        refine tSR <| ARun.qv (q_lss rfl rfl) rfl <| rN <| tS <| ATodo.cond_d rfl (fun hc => ?_) (fun hc => ?_)
        · refine have h := iteT hc h; tK <| tS <| ATodo.block <| tSR <| bndE h fun v14 e3 h => ARun.qv (t_index rfl rfl rfl e3 rfl rfl) rfl <| ARun.qv (q_load_rptr rfl rfl rfl) rfl <| rA rfl rfl <| rN <| tR <| rM rfl rfl <| rM rfl rfl <| bndE h fun l15 e4 h => t_append (g := Note.av) rfl rfl rfl rfl rfl rfl rfl rfl (.list _) e4 (fun _ => .p0) rfl fun b16 => rA rfl rfl <| rN <| ATodo.blk <| tR <| ARun.qv (q_addw rfl rfl) rfl <| rM rfl rfl <| rN <| ATodo.stop <| ?_
          obtain rfl := Option.some.inj h
          exact hJ2 _ _ rfl <| ImpX.lq [0] ⟨b16, rfl⟩ rfl rfl
        · refine have h := iteF hc h; ATodo.exit rfl <| have h := outL h hA2; tSR <| rM rfl rfl <| rA rfl rfl <| rN <| ATodo.ret <| ?_
          obtain rfl := Option.some.inj h
          exact ImpX.here ⟨_, .cons (.tmp _ _ rfl) .nil, _, .cons .p0 .nil, ⟨b11, rfl, rfl⟩⟩

set_option maxHeartbeats 4000000 in
theorem command_Merge_c {p0x0 : List Note} {p1x0 : List Note} {r : (List Note) × Int} (h : command_Merge p0x0 p1x0 = some r) : ACall Tryd.prog 28 [.list 9 (p0x0.map Note.av), .list 9 (p1x0.map Note.av)] [] (T1 (fun d_0 => [(d_0, .arr 9 (r.1.map Note.av))]) (fun d_0 => .tup [.sl 9 d_0 0 r.1.length, I r.2])) := by
  unfold command_Merge at h
  refine ACall.lessH ?_
  refine ACall.bodyN Tryd.func28 rfl Tryd.ntmps28 Tryd.results28 rfl rfl ?_
  refine tSR <| rA rfl rfl <| rA rfl rfl <| rN <| tS <| tSR <| rM rfl rfl <| bndE h fun v1 e1 h => r_callp rfl (command_CheckNotes_c e1) (CoL.refl _) rfl <| rM rfl rfl <| bndE h fun v2 e2 h => r_callp rfl (command_CheckNotes_c e2) (CoL.refl _) rfl <| n_buildSliceL (xs := ([v1, v2] : List Int).map I) rfl rfl rfl rfl rfl rfl <| bndE h fun v3 e3 h => r_callp rfl (base_First_c e3) (CoL.refl _) rfl <| rA rfl rfl <| rN <| tSR <| rM rfl rfl <| ARun.qv (q_neq rfl rfl) rfl <| rN <| ATodo.cond_d rfl (fun hc => ?_) (fun hc => ?_)
  · refine have h := iteT hc h; tSR <| rM rfl rfl <| rA rfl rfl <| rA rfl rfl <| rN <| ATodo.ret <| ?_
    obtain rfl := Option.some.inj h
    exact ImpX.arr (s := 4) 9 rfl fun b4 => ImpX.here ⟨_, .cons (.tmp _ _ rfl) (.cons (.tmp _ _ rfl) .nil), _, .cons .p0 .nil, ⟨b4, rfl, rfl⟩⟩
  · refine have h := iteF hc h; tK <| tSR <| rA rfl rfl <| rN <| tS <| ATodo.block <| ATodo.loopI (fun x : (List Note) × (List Note) × (List Note) => command_Merge_b1 x.1 x.2.1 x.2.2) (fun x σ' => ∃ (b11 : Bk), σ' = ⟨99, [(0, .list 9 (x.1.map Note.av)), (1, .list 9 (x.2.1.map Note.av)), (7, .sl 9 b11 0 x.2.2.length)], [(b11, .arr 9 (x.2.2.map Note.av))]⟩) h ?_ ?_
    · exact ImpX.arr (s := 7) 9 rfl fun b13 => ImpX.lq [0] ⟨b13, rfl⟩ rfl rfl
    · intro x z1 σ' J1 hmk h hJ1 hA1
      obtain ⟨l9, l10, l12⟩ := x
      obtain ⟨b11, rfl⟩ := hmk
      replace h : command_Merge_b1 l9 l10 l12 = some z1 := h
      unfold command_Merge_b1 at h
      refine tS <| tS <| ATodo.cut (fun σ' => ∃ (c14 : Bool), command_Merge_j1 l9 l10 l12 c14 = some z1 ∧ σ' = ⟨99, [(0, .list 9 (l9.map Note.av)), (1, .list 9 (l10.map Note.av)), (7, .sl 9 b11 0 l12.length), (26, .bool c14)], [(b11, .arr 9 (l12.map Note.av))]⟩) ?_ ?_
      · refine tR <| rM rfl rfl <| ARun.qv (t_len rfl) rfl <| ARun.qv (q_gtr rfl rfl) rfl <| rM rfl rfl <| ARun.guard_dt rfl rfl rfl (fun hc => ?_) (fun hc => ?_)
        · rw [andTd hc] at h
          exact rM rfl rfl <| rY rfl rfl rfl <| ARun.qv (t_len rfl) rfl <| rY rfl rfl rfl <| ARun.qv (q_gtr rfl rfl) rfl <| rT rfl rfl rfl <| rN <| ATodo.stop <| ImpX.lq [0] ⟨decide ((0 : Int) < (l10.length : Int)), h, rfl⟩ rfl rfl
        · rw [andFd hc] at h
          exact rG rfl rfl rfl rfl <| rG rfl rfl rfl rfl <| rE rfl rfl rfl <| rN <| ATodo.stop <| ImpX.lq [0] ⟨false, h, rfl⟩ rfl rfl
      · rintro σ' ⟨c14, h, rfl⟩
        unfold command_Merge_j1 at h
        refine ATodo.cond rfl (fun hc => ?_) (fun hc => ?_)
        · refine have h := iteT hc h; tK <| ATodo.block <| tS <| ATodo.regionM (id := 6) (A := [0, 1, 3, 7, 15, 0, 32, 96, 224, 480, 1023, 2047]) 12 mixed rfl (by kernel_rfl) (by kernel_rfl) <| AM.qv (q_move rfl) rfl <| bndE h fun v15 e4 h => AM.qv (t_index rfl rfl rfl e4 rfl rfl) rfl <| AM.qv (n_field_rptr rfl rfl) rfl <| AM.qv (n_field_rptr rfl rfl) rfl <| AM.qv (q_load_rptr rfl rfl rfl) rfl <| AM.qv (q_move rfl) rfl <| bndE h fun v16 e5 h => AM.qv (t_index rfl rfl rfl e5 rfl rfl) rfl <| AM.qv (n_field_rptr rfl rfl) rfl <| AM.qv (n_field_rptr rfl rfl) rfl <| AM.qv (q_load_rptr rfl rfl rfl) rfl <| AM.callp rfl (strings_Compare_c rfl) (CoL.refl _) rfl <| AM.qv (q_assign rfl) rfl <| AM.nil <| rN <| ATodo.block <| tSR <| rM rfl rfl <| ARun.qv (q_lss rfl rfl) rfl <| rA rfl rfl <| rN <| ATodo.cut (fun σ' => ∃ (b19 : Bk) (l17 : List Note) (l18 : List Note) (l20 : List Note), command_Merge_j2 l17 l18 l20 = some z1 ∧ σ' = ⟨99, [(0, .list 9 (l17.map Note.av)), (1, .list 9 (l18.map Note.av)), (7, .sl 9 b19 0 l20.length)], [(b19, .arr 9 (l20.map Note.av))]⟩) ?_ ?_
          · refine ATodo.cond_d rfl (fun hc => ?_) (fun hc => ?_)
            · refine have h := iteT hc h; bndE h fun v21 e6 h => bndE h fun l22 e7 h => bndE h fun l24 e8 h => ATodo.regionT (id := 12) (A := [0, 0, 2, 6, 14, 31, 0, 64, 63, 511]) (H0 := [(b11, .arr 9 (l12.map Note.av))]) (HH := fun β => [((β 8), .arr 9 (l22.map Note.av))]) 9 mixed rfl (by kernel_rfl) (by kernel_rfl) [⟨none, some 5, [], fun _ => (b11, .arr 9 (l12.map Note.av)), none⟩, ⟨some 5, some 8, [], fun b => (b, .arr 9 (l22.map Note.av)), none⟩, ⟨some 8, none, [], fun b => (b, .arr 9 (l22.map Note.av)), none⟩] [5, 8] rfl (by kernel_rfl) rfl (.cons .p0 .nil) (fun _ => rfl) <| AT.am 5 rfl rfl <| AM.qv (q_move rfl) rfl <| AM.qv (q_move rfl) rfl <| AM.qv (t_index rfl rfl rfl e6 rfl rfl) rfl <| AM.qv (q_load_rptr_agg rfl rfl rfl) rfl <| AM.buildSliceL (xs := ([v21] : List Note).map Note.av) rfl rfl rfl rfl rfl rfl <| AM.nil <| AT.runD (V := fun b => .sl 9 b 0 l22.length) (Ti := [(b11, .arr 9 (l12.map Note.av))]) (Pi := fun b => [(b, .arr 9 (l22.map Note.av))]) (fun _ => rfl) (fun _ => rfl) (fun _ _ => rfl) rfl (fun _ => rfl) rfl rfl rfl ?_ ?_
              · exact t_append (g := Note.av) rfl rfl rfl rfl rfl rfl rfl rfl (.list _) e7 (fun _ => .p0) rfl fun b23 => ARun.nil ⟨b23, _, rfl, rfl⟩
              refine AT.am 2 rfl rfl <| AM.qv (q_move rfl) rfl <| AM.qv (t_slice_list rfl rfl (.some _ _ _ rfl) .none rfl rfl e8) rfl <| AM.nil <| AT.runE (V := fun b => .sl 9 b 0 l22.length) (Ti := fun β => [(β 5, .arr 9 (l22.map Note.av))]) (Pi := fun b => [(b, .arr 9 (l22.map Note.av))]) (fun _ => rfl) (fun _ => rfl) (fun _ _ => rfl) (fun _ => rfl) (fun _ => rfl) rfl rfl rfl (fun β => ?_) ?_
              · generalize β 5 = b23
                exact rA rfl rfl <| ARun.nil ⟨b23, _, rfl, rfl⟩
              refine AT.nilN (fun _ => rfl) fun β => ?_
              generalize β 5 = b23
              generalize β 8 = b25
              clear β
              exact rA rfl rfl <| rN <| ATodo.stop <| ImpX.lq [0] ⟨b25, l24, l10, l22, h, rfl⟩ rfl rfl
            · refine have h := iteF hc h; tSR <| rM rfl rfl <| ARun.qv (q_gtr rfl rfl) rfl <| rA rfl rfl <| rN <| ATodo.cut (fun σ' => ∃ (b28 : Bk) (l26 : List Note) (l27 : List Note) (l29 : List Note), command_Merge_j3 l26 l27 l29 = some z1 ∧ σ' = ⟨99, [(0, .list 9 (l26.map Note.av)), (1, .list 9 (l27.map Note.av)), (7, .sl 9 b28 0 l29.length)], [(b28, .arr 9 (l29.map Note.av))]⟩) ?_ ?_
              · refine ATodo.cond_d rfl (fun hc => ?_) (fun hc => ?_)
                · refine have h := iteT hc h; bndE h fun v30 e9 h => bndE h fun l31 e10 h => bndE h fun l33 e11 h => ATodo.regionT (id := 14) (A := [0, 0, 2, 6, 14, 31, 0, 64, 63, 511]) (H0 := [(b11, .arr 9 (l12.map Note.av))]) (HH := fun β => [((β 8), .arr 9 (l31.map Note.av))]) 9 mixed rfl (by kernel_rfl) (by kernel_rfl) [⟨none, some 5, [], fun _ => (b11, .arr 9 (l12.map Note.av)), none⟩, ⟨some 5, some 8, [], fun b => (b, .arr 9 (l31.map Note.av)), none⟩, ⟨some 8, none, [], fun b => (b, .arr 9 (l31.map Note.av)), none⟩] [5, 8] rfl (by kernel_rfl) rfl (.cons .p0 .nil) (fun _ => rfl) <| AT.am 5 rfl rfl <| AM.qv (q_move rfl) rfl <| AM.qv (q_move rfl) rfl <| AM.qv (t_index rfl rfl rfl e9 rfl rfl) rfl <| AM.qv (q_load_rptr_agg rfl rfl rfl) rfl <| AM.buildSliceL (xs := ([v30] : List Note).map Note.av) rfl rfl rfl rfl rfl rfl <| AM.nil <| AT.runD (V := fun b => .sl 9 b 0 l31.length) (Ti := [(b11, .arr 9 (l12.map Note.av))]) (Pi := fun b => [(b, .arr 9 (l31.map Note.av))]) (fun _ => rfl) (fun _ => rfl) (fun _ _ => rfl) rfl (fun _ => rfl) rfl rfl rfl ?_ ?_
                  · exact t_append (g := Note.av) rfl rfl rfl rfl rfl rfl rfl rfl (.list _) e10 (fun _ => .p0) rfl fun b32 => ARun.nil ⟨b32, _, rfl, rfl⟩
                  refine AT.am 2 rfl rfl <| AM.qv (q_move rfl) rfl <| AM.qv (t_slice_list rfl rfl (.some _ _ _ rfl) .none rfl rfl e11) rfl <| AM.nil <| AT.runE (V := fun b => .sl 9 b 0 l31.length) (Ti := fun β => [(β 5, .arr 9 (l31.map Note.av))]) (Pi := fun b => [(b, .arr 9 (l31.map Note.av))]) (fun _ => rfl) (fun _ => rfl) (fun _ _ => rfl) (fun _ => rfl) (fun _ => rfl) rfl rfl rfl (fun β => ?_) ?_
                  · generalize β 5 = b32
                    exact rA rfl rfl <| ARun.nil ⟨b32, _, rfl, rfl⟩
                  refine AT.nilN (fun _ => rfl) fun β => ?_
                  generalize β 5 = b32
                  generalize β 8 = b34
                  clear β
                  exact rA rfl rfl <| rN <| ATodo.stop <| ImpX.lq [0] ⟨b34, l9, l33, l31, h, rfl⟩ rfl rfl
                · refine have h := iteF hc h; tS <| ATodo.regionM (id := 15) (A := [0, 1, 3, 7, 0, 16, 48, 112, 255, 511]) 10 mixed rfl (by kernel_rfl) (by kernel_rfl) <| AM.qv (q_move rfl) rfl <| bndE h fun v35 e12 h => AM.qv (t_index rfl rfl rfl e12 rfl rfl) rfl <| AM.qv (n_field_rptr rfl rfl) rfl <| AM.qv (n_load_rptr_part rfl rfl rfl rfl) rfl <| AM.qv (q_move rfl) rfl <| bndE h fun v36 e13 h => AM.qv (t_index rfl rfl rfl e13 rfl rfl) rfl <| AM.qv (n_field_rptr rfl rfl) rfl <| AM.qv (n_load_rptr_part rfl rfl rfl rfl) rfl <| AM.qv (t_tne (g := Letter.av) (X := v35.Letter) (Y := v36.Letter) rfl rfl rfl rfl rfl) rfl <| AM.qv (q_assign rfl) rfl <| AM.nil <| rN <| ATodo.cond_d rfl (fun hc => ?_) (fun hc => ?_)
                  · refine have h := iteT hc h; tSR <| rA rfl rfl <| rA rfl rfl <| rN <| ATodo.ret <| have h := outL h hA1; ?_
                    obtain rfl := Option.some.inj h
                    exact ImpX.arr (s := 4) 9 rfl fun b37 => ImpX.here ⟨_, .cons (.tmp _ _ rfl) (.cons (.tmp _ _ rfl) .nil), _, .cons .p0 .nil, ⟨b37, rfl, rfl⟩⟩
                  · refine have h := iteF hc h; tSR <| rM rfl rfl <| bndE h fun v38 e14 h => ARun.qv (t_index rfl rfl rfl e14 rfl rfl) rfl <| ARun.qv (q_load_rptr_agg rfl rfl rfl) rfl <| n_alloc rfl rfl rfl rfl fun b39 => n_store_ptr rfl rfl rfl rfl .p0 rfl rfl <| rN <| tS <| tS <| ATodo.regionM (id := 8) (A := [0, 1, 3, 0, 15, 31]) 6 mixed rfl (by kernel_rfl) (by kernel_rfl) <| AM.qv (q_move rfl) rfl <| bndE h fun v40 e15 h => AM.qv (t_index rfl rfl rfl e15 rfl rfl) rfl <| AM.qv (q_load_rptr_agg rfl rfl rfl) rfl <| AM.qv (q_load_ptr_all rfl rfl .p0 rfl) rfl <| bndE h fun v41 e16 h => AM.callp rfl (command_further_c e16) (CoL.refl _) rfl <| AM.qv (q_gtr rfl rfl) rfl <| AM.nil <| rN <| ATodo.cut (fun σ' => ∃ (q42 : Str) (q43 : Str) (q44 : Str) (n45 : Int) (n46 : Int) (n47 : Int) (n48 : Int) (n49 : Int) (n50 : Int), command_Merge_j4 l9 l10 l12 q42 q43 q44 n45 n46 n47 n48 n49 n50 = some z1 ∧ σ' = ⟨99, [(0, .list 9 (l9.map Note.av)), (1, .list 9 (l10.map Note.av)), (7, .sl 9 b11 0 l12.length), (9, .ptr b39 0)], [(b11, .arr 9 (l12.map Note.av)), (b39, .cells [.str q42, .str q43, .str q44, I n45, I n46, I n47, I n48, I n49, I n50])]⟩) ?_ ?_
                    · refine ATodo.cond_d rfl (fun hc => ?_) (fun hc => ?_)
                      · exact have h := iteT hc h; tR <| rM rfl rfl <| bndE h fun v51 e17 h => ARun.qv (t_index rfl rfl rfl e17 rfl rfl) rfl <| ARun.qv (q_load_rptr_agg rfl rfl rfl) rfl <| n_store_ptr rfl rfl rfl rfl .p0 rfl rfl <| rN <| ATodo.stop <| ImpX.lq [1, 0] ⟨v51.Letter.Id, v51.Letter.Slot, v51.Letter.Body, v51.Letter.Prio, v51.Letter.At, v51.Letter.Until, v51.State, v51.Tries, v51.Since, h, rfl⟩ rfl rfl
                      · exact have h := iteF hc h; tK <| ATodo.stop <| ImpX.lq [1, 0] ⟨v38.Letter.Id, v38.Letter.Slot, v38.Letter.Body, v38.Letter.Prio, v38.Letter.At, v38.Letter.Until, v38.State, v38.Tries, v38.Since, h, rfl⟩ rfl rfl
                    · rintro σ' ⟨q42, q43, q44, n45, n46, n47, n48, n49, n50, h, rfl⟩
                      unfold command_Merge_j4 at h
                      refine bndE h fun l52 e18 h => bndE h fun l54 e19 h => bndE h fun l55 e20 h => ATodo.regionT (id := 10) (A := [0, 0, 2, 7, 0, 16, 0, 64, 15, 319, 1023]) (H0 := [(b11, .arr 9 (l12.map Note.av))]) (HH := fun β => [((β 8), .arr 9 (l52.map Note.av)), (b39, .cells [.str q42, .str q43, .str q44, I n45, I n46, I n47, I n48, I n49, I n50])]) 10 mixed rfl (by kernel_rfl) (by kernel_rfl) [⟨none, some 3, [], fun _ => (b11, .arr 9 (l12.map Note.av)), none⟩, ⟨some 3, some 8, [], fun b => (b, .arr 9 (l52.map Note.av)), none⟩, ⟨some 8, none, [], fun b => (b, .arr 9 (l52.map Note.av)), none⟩] [3, 8] rfl (by kernel_rfl) rfl (.cons .p0 .nil) (fun _ => rfl) <| AT.am 3 rfl rfl <| AM.qv (q_move rfl) rfl <| AM.qv (q_load_ptr_all rfl rfl .p0 rfl) rfl <| AM.buildSliceL (xs := ([(⟨(⟨q42, q43, q44, n45, n46, n47⟩ : Letter), n48, n49, n50⟩ : Note)]).map Note.av) rfl rfl rfl rfl rfl rfl <| AM.nil <| AT.runD (V := fun b => .sl 9 b 0 l52.length) (Ti := [(b11, .arr 9 (l12.map Note.av))]) (Pi := fun b => [(b, .arr 9 (l52.map Note.av))]) (fun _ => rfl) (fun _ => rfl) (fun _ _ => rfl) rfl (fun _ => rfl) rfl rfl rfl ?_ ?_
                      · exact t_append (g := Note.av) rfl rfl rfl rfl rfl rfl rfl rfl (.list _) e18 (fun _ => .p0) rfl fun b53 => ARun.nil ⟨b53, _, rfl, rfl⟩
                      refine AT.am 4 rfl rfl <| AM.qv (q_move rfl) rfl <| AM.qv (t_slice_list rfl rfl (.some _ _ _ rfl) .none rfl rfl e19) rfl <| AM.qv (q_move rfl) rfl <| AM.qv (t_slice_list rfl rfl (.some _ _ _ rfl) .none rfl rfl e20) rfl <| AM.nil <| AT.runE (V := fun b => .sl 9 b 0 l52.length) (Ti := fun β => [(β 3, .arr 9 (l52.map Note.av))]) (Pi := fun b => [(b, .arr 9 (l52.map Note.av))]) (fun _ => rfl) (fun _ => rfl) (fun _ _ => rfl) (fun _ => rfl) (fun _ => rfl) rfl rfl rfl (fun β => ?_) ?_
                      · generalize β 3 = b53
                        exact rA rfl rfl <| ARun.nil ⟨b53, _, rfl, rfl⟩
                      refine AT.am 1 rfl rfl <| AM.qv (q_assign rfl) rfl <| AM.nil <| AT.nilN (fun _ => rfl) fun β => ?_
                      generalize β 3 = b53
                      generalize β 8 = b56
                      clear β
                      exact rA rfl rfl <| rN <| ATodo.stop <| ImpX.lq [0] ⟨b56, l54, l55, l52, h, rfl⟩ rfl rfl
              · rintro σ' ⟨b28, l26, l27, l29, h, rfl⟩
                unfold command_Merge_j3 at h
                exact ATodo.stop <| ImpX.lq [0] ⟨b28, l26, l27, l29, h, rfl⟩ rfl rfl
          · rintro σ' ⟨b19, l17, l18, l20, h, rfl⟩
            unfold command_Merge_j2 at h
            refine ATodo.blk <| ATodo.blk <| ATodo.stop <| ?_
            obtain rfl := Option.some.inj h
            exact hJ1 _ _ rfl <| ImpX.lq [0] ⟨b19, rfl⟩ rfl rfl
        · refine have h := iteFb hc h; ATodo.exit rfl <| have h := outL h hA1; ?_
          unfold command_Merge_k5 at h
          refine tSR <| rM rfl rfl <| rM rfl rfl <| rM rfl rfl <| ARun.ghost <| ImpX.freeze .p0 <| ImpX.here <| n_buildSliceL (xs := [.sl 9 b11 0 l12.length, .list 9 (l9.map Note.av), .list 9 (l10.map Note.av)]) rfl rfl rfl rfl rfl rfl <| ARun.ghost <| ImpX.cox (s := 93) (av' := .list 1 (([l12, l9, l10] : List (List Note)).map (encL 9 Note.av))) rfl (CoX.listL (.cons (.co (Co.froT .p0)) (.cons .r (.cons .r .nil))) rfl rfl) <| ImpX.here <| bndE h fun v57 e21 h => t_call1 rfl (slices_Concat_Note_Note_c e21) (CoL.refl _) .nil (fun _ => rfl) rfl fun b58 => rA rfl rfl <| rN <| tS <| tSR <| rM rfl rfl <| ARun.qv (t_len_sl rfl) rfl <| ARun.qv (q_gtr rfl rfl) rfl <| rN <| ATodo.cond_d rfl (fun hc => ?_) (fun hc => ?_)
          · refine have h := iteT hc h; tSR <| rA rfl rfl <| rA rfl rfl <| rN <| ATodo.ret <| ?_
            obtain rfl := Option.some.inj h
            exact ImpX.arr (s := 4) 9 rfl fun b59 => ImpX.here ⟨_, .cons (.tmp _ _ rfl) (.cons (.tmp _ _ rfl) .nil), _, .cons .p0 .nil, ⟨b59, rfl, rfl⟩⟩
          · refine have h := iteF hc h; tK <| tSR <| rM rfl rfl <| rA rfl rfl <| rA rfl rfl <| rN <| ATodo.ret <| ?_
            obtain rfl := Option.some.inj h
            exact ImpX.here ⟨_, .cons (.tmp _ _ rfl) (.cons (.tmp _ _ rfl) .nil), _, .cons .p0 .nil, ⟨b58, rfl, rfl⟩⟩

set_option maxHeartbeats 4000000 in
theorem Q_in_c [GI : GTab] {p0x0 : Int} {p1x0 : Int} {p2x0 : Int} {r : Bool} (h : Q_in p0x0 p1x0 p2x0 = r) : Pu Tryd.prog 71 [I p0x0, I p1x0, I p2x0] (.bool r) := by
  unfold Q_in at h
  refine ACall.bodyN Tryd.func71 rfl Tryd.ntmps71 Tryd.results71 rfl rfl ?_
  refine tSR <| rA rfl rfl <| rN <| tS <| ATodo.cut (fun σ' => ∃ (c1 : Bool), Q_in_j1 c1 = r ∧ σ' = ⟨15, [(6, .bool c1)], []⟩) ?_ ?_
  · refine tR <| rM rfl rfl <| rM rfl rfl <| ARun.qv (q_leq rfl rfl) rfl <| rM rfl rfl <| ARun.guard_dt rfl rfl rfl (fun hc => ?_) (fun hc => ?_)
    · rw [andTd hc] at h
      exact rM rfl rfl <| rY rfl rfl rfl <| rM rfl rfl <| rY rfl rfl rfl <| ARun.qv (q_leq rfl rfl) rfl <| rT rfl rfl rfl <| rA rfl rfl <| rN <| ATodo.stop <| ImpX.lq [] ⟨decide (p0x0 ≤ p2x0), h, rfl⟩ rfl rfl
    · rw [andFd hc] at h
      exact rG rfl rfl rfl rfl <| rG rfl rfl rfl rfl <| rE rfl rfl rfl <| rA rfl rfl <| rN <| ATodo.stop <| ImpX.lq [] ⟨false, h, rfl⟩ rfl rfl
  · rintro σ' ⟨c1, h, rfl⟩
    unfold Q_in_j1 at h
    refine ATodo.ret <| ?_
    obtain rfl := h
    exact ImpX.here ⟨_, .cons (.tmp _ _ rfl) .nil, rfl⟩

set_option maxHeartbeats 4000000 in
theorem Q_only_c [GI : GTab] {p0x0 : Str} {p1x0 : Str} {r : Bool} (h : Q_only p0x0 p1x0 = some r) : Pu Tryd.prog 72 [.str p0x0, .str p1x0] (.bool r) := by
  unfold Q_only at h
  refine ACall.bodyN Tryd.func72 rfl Tryd.ntmps72 Tryd.results72 rfl rfl ?_
  refine tSR <| rA rfl rfl <| rN <| tS <| tSR <| rM rfl rfl <| ARun.qv (q_len_str rfl) rfl <| rM rfl rfl <| rN <| ATodo.block <| ATodo.loopI (fun x : Int => Q_only_b1 p0x0 p1x0 x) (fun x σ' => σ' = ⟨18, [(0, .str p0x0), (1, .str p1x0), (7, I (p0x0.length : Int)), (8, I x)], []⟩) h ?_ ?_
  · exact ImpX.lq [] rfl rfl rfl
  · intro n2 z1 σ' J1 hmk h hJ1 hA1
    obtain rfl := hmk
    replace h : Q_only_b1 p0x0 p1x0 n2 = some z1 := h
    unfold Q_only_b1 at h
    refine tSR <| ARun.qv (q_lss rfl rfl) rfl <| rN <| tS <| ATodo.cond_d rfl (fun hc => ?_) (fun hc => ?_)
    · refine have h := iteT hc h; tK <| tS <| ATodo.block <| tSR <| rM rfl rfl <| rA rfl rfl <| rN <| tSR <| rM rfl rfl <| rM rfl rfl <| rM rfl rfl <| bndE h fun c3 e1 h => ARun.qv (t_index_str rfl rfl e1) rfl <| r_callp rfl (strings_IndexByte_c rfl) (CoL.refl _) rfl <| ARun.qv (q_lss rfl rfl) rfl <| rN <| ATodo.cond_d rfl (fun hc => ?_) (fun hc => ?_)
      · refine have h := iteT hc h; tSR <| rA rfl rfl <| rN <| ATodo.ret <| have h := outL h hA1; ?_
        obtain rfl := Option.some.inj h
        exact ImpX.here ⟨_, .cons (.tmp _ _ rfl) .nil, rfl⟩
      · refine have h := iteF hc h; tK <| ATodo.blk <| tR <| ARun.qv (q_addw rfl rfl) rfl <| rM rfl rfl <| rN <| ATodo.stop <| ?_
        obtain rfl := Option.some.inj h
        exact hJ1 _ _ rfl <| ImpX.lq [] rfl rfl rfl
    · refine have h := iteF hc h; ATodo.exit rfl <| have h := outL h hA1; tSR <| rA rfl rfl <| rN <| ATodo.ret <| ?_
      obtain rfl := Option.some.inj h
      exact ImpX.here ⟨_, .cons (.tmp _ _ rfl) .nil, rfl⟩

set_option maxHeartbeats 4000000 in
theorem Q_Key_c [GI : GTab] {p0x0 : Str} {r : Bool} (h : Q_Key p0x0 = some r) : Pu Tryd.prog 73 [.str p0x0] (.bool r) := by
  unfold Q_Key at h
  refine ACall.bodyN Tryd.func73 rfl Tryd.ntmps73 Tryd.results73 rfl rfl ?_
  refine tSR <| rA rfl rfl <| rN <| tS <| ATodo.cut (fun σ' => ∃ (c1 : Bool), Q_Key_j1 c1 = some r ∧ σ' = ⟨15, [(2, .bool c1)], []⟩) ?_ ?_
  · refine tR <| rM rfl rfl <| ARun.qv (q_len_str rfl) rfl <| r_callp rfl (Q_in_c rfl) (CoL.refl _) rfl <| rM rfl rfl <| ARun.guard rfl rfl rfl (fun hc => ?_) (fun hc => ?_)
    · refine have h := iteT hc h; rM rfl rfl <| rY rfl rfl rfl <| bndE h fun l2 e1 h => ARun.qv (t_slice_str rfl .none (.some _ _ _ rfl) rfl rfl e1) rfl <| rY rfl rfl rfl <| bndE h fun v3 e2 h => r_callp rfl (Q_only_c e2) (CoL.refl _) rfl <| rT rfl rfl rfl <| rM rfl rfl <| ARun.guard rfl rfl rfl (fun hc => ?_) (fun hc => ?_)
      · exact have h := iteT hc h; rM rfl rfl <| rY rfl rfl rfl <| bndE h fun v4 e3 h => r_callp rfl (Q_only_c e3) (CoL.refl _) rfl <| rT rfl rfl rfl <| rA rfl rfl <| rN <| ATodo.stop <| ImpX.lq [] ⟨v4, h, rfl⟩ rfl rfl
      · exact have h := iteFb hc h; rG rfl rfl rfl rfl <| rE rfl rfl rfl <| rA rfl rfl <| rN <| ATodo.stop <| ImpX.lq [] ⟨false, h, rfl⟩ rfl rfl
    · exact have h := iteFb hc h; rG rfl rfl rfl rfl <| rG rfl rfl rfl rfl <| rE rfl rfl rfl <| rM rfl rfl <| rG rfl rfl rfl rfl <| rG rfl rfl rfl rfl <| rE rfl rfl rfl <| rA rfl rfl <| rN <| ATodo.stop <| ImpX.lq [] ⟨false, h, rfl⟩ rfl rfl
  · rintro σ' ⟨c1, h, rfl⟩
    unfold Q_Key_j1 at h
    refine ATodo.ret <| ?_
    obtain rfl := Option.some.inj h
    exact ImpX.here ⟨_, .cons (.tmp _ _ rfl) .nil, rfl⟩

set_option maxHeartbeats 4000000 in
theorem Q_Printed_1x_c [GI : GTab] {p0x0 : Int} {r : Bool} (h : Q_Printed_1x p0x0 = r) : Pu Tryd.prog 184 [.int .i32 p0x0] (.bool r) := by
  unfold Q_Printed_1x at h
  refine ACall.bodyN Tryd.func184 rfl Tryd.ntmps184 Tryd.results184 rfl rfl ?_
  refine tSR <| rA rfl rfl <| rN <| tS <| ATodo.cut (fun σ' => ∃ (c1 : Bool), Q_Printed_1x_j1 c1 = r ∧ σ' = ⟨9, [(2, .bool c1)], []⟩) ?_ ?_
  · refine tR <| rM rfl rfl <| ARun.qv (q_lss rfl rfl) rfl <| rM rfl rfl <| ARun.guard_df rfl rfl rfl (fun hc => ?_) (fun hc => ?_)
    · rw [orFd hc] at h
      exact rM rfl rfl <| rY rfl rfl rfl <| ARun.qv (q_eql rfl rfl) rfl <| rE rfl rfl rfl <| rA rfl rfl <| rN <| ATodo.stop <| ImpX.lq [] ⟨decide (p0x0 = (127 : Int)), h, rfl⟩ rfl rfl
    · rw [orTd hc] at h
      exact rG rfl rfl rfl rfl <| rT rfl rfl rfl <| rA rfl rfl <| rN <| ATodo.stop <| ImpX.lq [] ⟨true, h, rfl⟩ rfl rfl
  · rintro σ' ⟨c1, h, rfl⟩
    unfold Q_Printed_1x_j1 at h
    refine ATodo.ret <| ?_
    obtain rfl := h
    exact ImpX.here ⟨_, .cons (.tmp _ _ rfl) .nil, rfl⟩

set_option maxHeartbeats 4000000 in
theorem Q_Printed_c {p0x0 : Str} {r : Bool} (h : Q_Printed p0x0 = some r) : Pu Tryd.prog 142 [.str p0x0] (.bool r) := by
  unfold Q_Printed at h
  refine ACall.bodyN Tryd.func142 rfl Tryd.ntmps142 Tryd.results142 rfl rfl ?_
  refine tSR <| rA rfl rfl <| rN <| tS <| ATodo.cut (fun σ' => ∃ (c1 : Bool), Q_Printed_j1 c1 = some r ∧ σ' = ⟨10, [(2, .bool c1)], []⟩) ?_ ?_
  · refine tR <| rM rfl rfl <| bndE h fun v2 e1 h => r_callp rfl (utf8_ValidString_c e1) (CoL.refl _) rfl <| rM rfl rfl <| ARun.guard rfl rfl rfl (fun hc => ?_) (fun hc => ?_)
    · exact have h := iteT hc h; rM rfl rfl <| rY rfl rfl rfl <| bndE h fun v3 e2 h => r_callpB rfl (strings_ContainsFunc_c (fun e => Q_Printed_1x_c (Option.some.inj e)) e2) (.cons (.co (.refl _)) (.cons (.funcL _ _ _ .nil) .nil)) rfl rfl <| rY rfl rfl rfl <| ARun.qv (q_not rfl) rfl <| rT rfl rfl rfl <| rA rfl rfl <| rN <| ATodo.stop <| ImpX.lq [] ⟨!v3, h, rfl⟩ rfl rfl
    · exact have h := iteFb hc h; rG rfl rfl rfl rfl <| rG rfl rfl rfl rfl <| rE rfl rfl rfl <| rA rfl rfl <| rN <| ATodo.stop <| ImpX.lq [] ⟨false, h, rfl⟩ rfl rfl
  · rintro σ' ⟨c1, h, rfl⟩
    unfold Q_Printed_j1 at h
    refine ATodo.ret <| ?_
    obtain rfl := Option.some.inj h
    exact ImpX.here ⟨_, .cons (.tmp _ _ rfl) .nil, rfl⟩

set_option maxHeartbeats 4000000 in
theorem Q_Moment_c [GI : GTab] {p0x0 : Int} {r : Bool} (h : Q_Moment p0x0 = r) : Pu Tryd.prog 82 [I p0x0] (.bool r) := by
  unfold Q_Moment at h
  refine ACall.bodyN Tryd.func82 rfl Tryd.ntmps82 Tryd.results82 rfl rfl ?_
  refine tSR <| rA rfl rfl <| rN <| tSR <| rM rfl rfl <| r_callp rfl (Q_in_c rfl) (CoL.refl _) rfl <| rA rfl rfl <| rN <| ATodo.ret <| ?_
  obtain rfl := h
  exact ImpX.here ⟨_, .cons (.tmp _ _ rfl) .nil, rfl⟩

set_option maxHeartbeats 4000000 in
theorem Q_LetterFault_c {p0x0 : Letter} {r : Int} (h : Q_LetterFault p0x0 = some r) : Pu Tryd.prog 81 [.agg [.str p0x0.Id, .str p0x0.Slot, .str p0x0.Body, I p0x0.Prio, I p0x0.At, I p0x0.Until]] (I r) := by
  unfold Q_LetterFault at h
  refine ACall.bodyN Tryd.func81 rfl Tryd.ntmps81 Tryd.results81 rfl rfl ?_
  refine tSR <| n_box rfl rfl rfl rfl fun b1 => rA rfl rfl <| rN <| tS <| ATodo.block <| tS <| ATodo.cut (fun σ' => ∃ (c2 : Bool), Q_LetterFault_j1 p0x0 c2 = some r ∧ σ' = ⟨52, [(1, .ptr b1 0), (3, .bool c2)], [(b1, .cells [.str p0x0.Id, .str p0x0.Slot, .str p0x0.Body, I p0x0.Prio, I p0x0.At, I p0x0.Until])]⟩) ?_ ?_
  · refine tR <| rF rfl rfl rfl <| rL rfl rfl .p0 rfl rfl <| bndE h fun v3 e1 h => r_callp rfl (Q_Key_c e1) (CoL.refl _) rfl <| ARun.qv (q_not rfl) rfl <| rM rfl rfl <| ARun.guard rfl rfl rfl (fun hc => ?_) (fun hc => ?_)
    · refine have h := iteFb hc h; rF rfl rfl rfl <| rY rfl rfl rfl <| rL rfl rfl .p0 rfl rfl <| rY rfl rfl rfl <| ARun.qv (q_sne rfl rfl) rfl <| rY rfl rfl rfl <| rM rfl rfl <| ARun.guard_dt rfl rfl rfl (fun hc => ?_) (fun hc => ?_)
      · exact have h := iteT hc h; rF rfl rfl rfl <| rY rfl rfl rfl <| rL rfl rfl .p0 rfl rfl <| rY rfl rfl rfl <| bndE h fun v4 e2 h => r_callp rfl (Q_Key_c e2) (CoL.refl _) rfl <| rY rfl rfl rfl <| ARun.qv (q_not rfl) rfl <| rY rfl rfl rfl <| rT rfl rfl rfl <| rE rfl rfl rfl <| rA rfl rfl <| rN <| ATodo.stop <| ImpX.lq [0] ⟨!v4, h, rfl⟩ rfl rfl
      · exact have h := iteF hc h; rG rfl rfl rfl rfl <| rG rfl rfl rfl rfl <| rG rfl rfl rfl rfl <| rY rfl rfl rfl <| rE rfl rfl rfl <| rE rfl rfl rfl <| rA rfl rfl <| rN <| ATodo.stop <| ImpX.lq [0] ⟨false, h, rfl⟩ rfl rfl
    · exact have h := iteT hc h; rG rfl rfl rfl rfl <| rG rfl rfl rfl rfl <| rG rfl rfl rfl rfl <| ARun.guard_und rfl rfl rfl <| ARun.guard_und rfl rfl rfl <| ARun.guard_und rfl rfl rfl <| ARun.guard_und rfl rfl rfl <| rG rfl rfl rfl rfl <| rT rfl rfl rfl <| rA rfl rfl <| rN <| ATodo.stop <| ImpX.lq [0] ⟨true, h, rfl⟩ rfl rfl
  · rintro σ' ⟨c2, h, rfl⟩
    unfold Q_LetterFault_j1 at h
    refine ATodo.cond rfl (fun hc => ?_) (fun hc => ?_)
    · refine have h := iteT hc h; tSR <| rA rfl rfl <| rN <| ATodo.ret <| ?_
      obtain rfl := Option.some.inj h
      exact ImpX.here ⟨_, .cons (.tmp _ _ rfl) .nil, rfl⟩
    · refine have h := iteFb hc h; tSR <| rF rfl rfl rfl <| rL rfl rfl .p0 rfl rfl <| ARun.qv (q_len_str rfl) rfl <| ARun.qv (q_gtr rfl rfl) rfl <| rA rfl rfl <| rN <| ATodo.cond_d rfl (fun hc => ?_) (fun hc => ?_)
      · refine have h := iteT hc h; tSR <| rA rfl rfl <| rN <| ATodo.ret <| ?_
        obtain rfl := Option.some.inj h
        exact ImpX.here ⟨_, .cons (.tmp _ _ rfl) .nil, rfl⟩
      · refine have h := iteF hc h; tSR <| rF rfl rfl rfl <| rL rfl rfl .p0 rfl rfl <| bndE h fun v5 e3 h => r_callp rfl (Q_Printed_c e3) (CoL.refl _) rfl <| ARun.qv (q_not rfl) rfl <| rA rfl rfl <| rN <| ATodo.cond rfl (fun hc => ?_) (fun hc => ?_)
        · refine have h := iteT hc h; tSR <| rA rfl rfl <| rN <| ATodo.ret <| ?_
          obtain rfl := Option.some.inj h
          exact ImpX.here ⟨_, .cons (.tmp _ _ rfl) .nil, rfl⟩
        · refine have h := iteFb hc h; tS <| ATodo.cut (fun σ' => ∃ (c6 : Bool), Q_LetterFault_j2 c6 = some r ∧ σ' = ⟨52, [(29, .bool c6)], []⟩) ?_ ?_
          · refine tR <| rF rfl rfl rfl <| rL rfl rfl .p0 rfl rfl <| r_callp rfl (Q_in_c rfl) (CoL.refl _) rfl <| ARun.qv (q_not rfl) rfl <| rM rfl rfl <| ARun.guard rfl rfl rfl (fun hc => ?_) (fun hc => ?_)
            · rw [orFb hc] at h
              refine rF rfl rfl rfl <| rY rfl rfl rfl <| rL rfl rfl .p0 rfl rfl <| rY rfl rfl rfl <| r_callp rfl (Q_Moment_c rfl) (CoL.refl _) rfl <| rY rfl rfl rfl <| ARun.qv (q_not rfl) rfl <| rE rfl rfl rfl <| rM rfl rfl <| ARun.guard rfl rfl rfl (fun hc => ?_) (fun hc => ?_)
              · rw [orFb hc] at h
                refine rF rfl rfl rfl <| rY rfl rfl rfl <| rL rfl rfl .p0 rfl rfl <| rY rfl rfl rfl <| rF rfl rfl rfl <| rY rfl rfl rfl <| rL rfl rfl .p0 rfl rfl <| rY rfl rfl rfl <| ARun.qv (q_leq rfl rfl) rfl <| rE rfl rfl rfl <| rM rfl rfl <| ARun.guard_df rfl rfl rfl (fun hc => ?_) (fun hc => ?_)
                · rw [orFd hc] at h
                  exact rF rfl rfl rfl <| rY rfl rfl rfl <| rL rfl rfl .p0 rfl rfl <| rY rfl rfl rfl <| ARun.qv (q_gtr rfl rfl) rfl <| rE rfl rfl rfl <| rA rfl rfl <| rN <| ATodo.stop <| ImpX.lq [] ⟨decide ((345686400000 : Int) < p0x0.Until), h, rfl⟩ rfl rfl
                · rw [orTd hc] at h
                  exact rG rfl rfl rfl rfl <| rG rfl rfl rfl rfl <| rT rfl rfl rfl <| rA rfl rfl <| rN <| ATodo.stop <| ImpX.lq [] ⟨true, h, rfl⟩ rfl rfl
              · rw [orTb hc] at h
                exact rG rfl rfl rfl rfl <| rG rfl rfl rfl rfl <| rG rfl rfl rfl rfl <| rG rfl rfl rfl rfl <| rT rfl rfl rfl <| rM rfl rfl <| rG rfl rfl rfl rfl <| rG rfl rfl rfl rfl <| rG rfl rfl rfl rfl <| rT rfl rfl rfl <| rA rfl rfl <| rN <| ATodo.stop <| ImpX.lq [] ⟨true, h, rfl⟩ rfl rfl
            · rw [orTb hc] at h
              exact rG rfl rfl rfl rfl <| rG rfl rfl rfl rfl <| rG rfl rfl rfl rfl <| rT rfl rfl rfl <| rM rfl rfl <| rG rfl rfl rfl rfl <| rG rfl rfl rfl rfl <| rG rfl rfl rfl rfl <| rG rfl rfl rfl rfl <| rG rfl rfl rfl rfl <| rT rfl rfl rfl <| rM rfl rfl <| rG rfl rfl rfl rfl <| rG rfl rfl rfl rfl <| rG rfl rfl rfl rfl <| rT rfl rfl rfl <| rA rfl rfl <| rN <| ATodo.stop <| ImpX.lq [] ⟨true, h, rfl⟩ rfl rfl
          · rintro σ' ⟨c6, h, rfl⟩
            unfold Q_LetterFault_j2 at h
            refine ATodo.cond rfl (fun hc => ?_) (fun hc => ?_)
            · refine have h := iteT hc h; tSR <| rA rfl rfl <| rN <| ATodo.ret <| ?_
              obtain rfl := Option.some.inj h
              exact ImpX.here ⟨_, .cons (.tmp _ _ rfl) .nil, rfl⟩
            · refine have h := iteFb hc h; tK <| ATodo.blk <| tSR <| rA rfl rfl <| rN <| ATodo.ret <| ?_
              obtain rfl := Option.some.inj h
              exact ImpX.here ⟨_, .cons (.tmp _ _ rfl) .nil, rfl⟩

set_option maxHeartbeats 4000000 in
theorem Q_NotesFault_c {p0x0 : List Note} {r : Int} (h : Q_NotesFault p0x0 = some r) : Pu Tryd.prog 29 [.list 9 (p0x0.map Note.av)] (I r) := by
  unfold Q_NotesFault at h
  refine ACall.bodyN Tryd.func29 rfl Tryd.ntmps29 Tryd.results29 rfl rfl ?_
  refine tSR <| rA rfl rfl <| rN <| tS <| tSR <| rM rfl rfl <| ARun.qv (t_len rfl) rfl <| ARun.qv (q_gtr rfl rfl) rfl <| rN <| ATodo.cond_d rfl (fun hc => ?_) (fun hc => ?_)
  · refine have h := iteT hc h; tSR <| rA rfl rfl <| rN <| ATodo.ret <| ?_
    obtain rfl := Option.some.inj h
    exact ImpX.here ⟨_, .cons (.tmp _ _ rfl) .nil, rfl⟩
  · refine have h := iteF hc h; tK <| tSR <| rA rfl rfl <| rN <| tS <| tSR <| rM rfl rfl <| ARun.qv (t_len rfl) rfl <| rM rfl rfl <| rN <| ATodo.block <| ATodo.loopI (fun x : Str × Int => Q_NotesFault_b1 p0x0 x.1 x.2) (fun x σ' => σ' = ⟨48, [(3, .str x.1), (10, .list 9 (p0x0.map Note.av)), (11, I (p0x0.length : Int)), (12, I x.2)], []⟩) h ?_ ?_
    · exact ImpX.lq [] rfl rfl rfl
    · intro x z1 σ' J1 hmk h hJ1 hA1
      obtain ⟨q3, n4⟩ := x
      obtain rfl := hmk
      replace h : Q_NotesFault_b1 p0x0 q3 n4 = some z1 := h
      unfold Q_NotesFault_b1 at h
      refine tSR <| ARun.qv (q_lss rfl rfl) rfl <| rN <| tS <| ATodo.cond_d rfl (fun hc => ?_) (fun hc => ?_)
      · refine have h := iteT hc h; tK <| tS <| ATodo.block <| tSR <| bndE h fun v5 e1 h => ARun.qv (t_index rfl rfl rfl e1 rfl rfl) rfl <| ARun.qv (q_load_rptr_agg rfl rfl rfl) rfl <| n_alloc rfl rfl rfl rfl fun b6 => n_store_ptr rfl rfl rfl rfl .p0 rfl rfl <| rN <| tS <| tSR <| rF rfl rfl rfl <| ARun.qv (n_load_ptr_part rfl rfl .p0 rfl rfl) rfl <| bndE h fun v7 e2 h => r_callp rfl (Q_LetterFault_c e2) (CoL.refl _) rfl <| rA rfl rfl <| rN <| tSR <| rM rfl rfl <| ARun.qv (q_neq rfl rfl) rfl <| rN <| ATodo.cond_d rfl (fun hc => ?_) (fun hc => ?_)
        · refine have h := iteT hc h; tSR <| rM rfl rfl <| rA rfl rfl <| rN <| ATodo.ret <| have h := outL h hA1; ?_
          obtain rfl := Option.some.inj h
          exact ImpX.here ⟨_, .cons (.tmp _ _ rfl) .nil, rfl⟩
        · refine have h := iteF hc h; tK <| tS <| ATodo.block <| tSR <| rF rfl rfl rfl <| rL rfl rfl .p0 rfl rfl <| r_callp rfl (Q_in_c rfl) (CoL.refl _) rfl <| ARun.qv (q_not rfl) rfl <| rA rfl rfl <| rN <| ATodo.cond rfl (fun hc => ?_) (fun hc => ?_)
          · refine have h := iteT hc h; tSR <| rA rfl rfl <| rN <| ATodo.ret <| have h := outL h hA1; ?_
            obtain rfl := Option.some.inj h
            exact ImpX.here ⟨_, .cons (.tmp _ _ rfl) .nil, rfl⟩
          · refine have h := iteFb hc h; tS <| ATodo.cut (fun σ' => ∃ (c8 : Bool), Q_NotesFault_j1 q3 n4 v5 c8 = some z1 ∧ σ' = ⟨48, [(3, .str q3), (5, .ptr b6 0), (10, .list 9 (p0x0.map Note.av)), (11, I (p0x0.length : Int)), (12, I n4), (27, .bool c8)], [(b6, .cells [.str v5.Letter.Id, .str v5.Letter.Slot, .str v5.Letter.Body, I v5.Letter.Prio, I v5.Letter.At, I v5.Letter.Until, I v5.State, I v5.Tries, I v5.Since])]⟩) ?_ ?_
            · refine tR <| rF rfl rfl rfl <| rL rfl rfl .p0 rfl rfl <| r_callp rfl (Q_in_c rfl) (CoL.refl _) rfl <| ARun.qv (q_not rfl) rfl <| rM rfl rfl <| ARun.guard rfl rfl rfl (fun hc => ?_) (fun hc => ?_)
              · rw [orFb hc] at h
                exact rF rfl rfl rfl <| rY rfl rfl rfl <| rL rfl rfl .p0 rfl rfl <| rY rfl rfl rfl <| r_callp rfl (Q_Moment_c rfl) (CoL.refl _) rfl <| rY rfl rfl rfl <| ARun.qv (q_not rfl) rfl <| rE rfl rfl rfl <| rA rfl rfl <| rN <| ATodo.stop <| ImpX.lq [0] ⟨!(Q_Moment v5.Since), h, rfl⟩ rfl rfl
              · rw [orTb hc] at h
                exact rG rfl rfl rfl rfl <| rG rfl rfl rfl rfl <| rG rfl rfl rfl rfl <| rT rfl rfl rfl <| rA rfl rfl <| rN <| ATodo.stop <| ImpX.lq [0] ⟨true, h, rfl⟩ rfl rfl
            · rintro σ' ⟨c8, h, rfl⟩
              unfold Q_NotesFault_j1 at h
              refine ATodo.cond rfl (fun hc => ?_) (fun hc => ?_)
              · refine have h := iteT hc h; tSR <| rA rfl rfl <| rN <| ATodo.ret <| have h := outL h hA1; ?_
                obtain rfl := Option.some.inj h
                exact ImpX.here ⟨_, .cons (.tmp _ _ rfl) .nil, rfl⟩
              · refine have h := iteFb hc h; tSR <| rF rfl rfl rfl <| rF rfl rfl rfl <| rL rfl rfl .p0 rfl rfl <| rM rfl rfl <| ARun.qv (t_sleq rfl rfl) rfl <| rA rfl rfl <| rN <| ATodo.cond rfl (fun hc => ?_) (fun hc => ?_)
                · refine have h := iteT hc h; tSR <| rA rfl rfl <| rN <| ATodo.ret <| have h := outL h hA1; ?_
                  obtain rfl := Option.some.inj h
                  exact ImpX.here ⟨_, .cons (.tmp _ _ rfl) .nil, rfl⟩
                · refine have h := iteFb hc h; tK <| ATodo.blk <| tR <| rF rfl rfl rfl <| rF rfl rfl rfl <| rL rfl rfl .p0 rfl rfl <| rA rfl rfl <| rN <| ATodo.blk <| tR <| ARun.qv (q_addw rfl rfl) rfl <| rM rfl rfl <| rN <| ATodo.stop <| ?_
                  obtain rfl := Option.some.inj h
                  exact hJ1 _ _ rfl <| ImpX.lq [] rfl rfl rfl
      · refine have h := iteF hc h; ATodo.exit rfl <| have h := outL h hA1; tSR <| rA rfl rfl <| rN <| ATodo.ret <| ?_
        obtain rfl := Option.some.inj h
        exact ImpX.here ⟨_, .cons (.tmp _ _ rfl) .nil, rfl⟩

set_option maxHeartbeats 4000000 in
theorem L_errs_c [GI : GTab] {p0x0 : List Int} {r : Int} (h : L_errs p0x0 = some r) : Pu Tryd.prog 16 [.list 1 (p0x0.map I)] (I r) := by
  unfold L_errs at h
  refine ACall.bodyN Tryd.func16 rfl Tryd.ntmps16 Tryd.results16 rfl rfl ?_
  refine tSR <| rA rfl rfl <| rN <| tS <| tSR <| rM rfl rfl <| ARun.qv (t_len rfl) rfl <| rM rfl rfl <| rN <| ATodo.block <| ATodo.loopI (fun x : Int => L_errs_b1 p0x0 x) (fun x σ' => σ' = ⟨15, [(5, .list 1 (p0x0.map I)), (6, I (p0x0.length : Int)), (7, I x)], []⟩) h ?_ ?_
  · exact ImpX.lq [] rfl rfl rfl
  · intro n2 z1 σ' J1 hmk h hJ1 hA1
    obtain rfl := hmk
    replace h : L_errs_b1 p0x0 n2 = some z1 := h
    unfold L_errs_b1 at h
    refine tSR <| ARun.qv (q_lss rfl rfl) rfl <| rN <| tS <| ATodo.cond_d rfl (fun hc => ?_) (fun hc => ?_)
    · refine have h := iteT hc h; tK <| tS <| ATodo.block <| tSR <| bndE h fun v3 e1 h => ARun.qv (t_index rfl rfl rfl e1 rfl rfl) rfl <| ARun.qv (q_load_rptr rfl rfl rfl) rfl <| rA rfl rfl <| rN <| tSR <| rM rfl rfl <| ARun.qv (q_neq rfl rfl) rfl <| rN <| ATodo.cond_d rfl (fun hc => ?_) (fun hc => ?_)
      · refine have h := iteT hc h; tSR <| rM rfl rfl <| rA rfl rfl <| rN <| ATodo.ret <| have h := outL h hA1; ?_
        obtain rfl := Option.some.inj h
        exact ImpX.here ⟨_, .cons (.tmp _ _ rfl) .nil, rfl⟩
      · refine have h := iteF hc h; tK <| ATodo.blk <| tR <| ARun.qv (q_addw rfl rfl) rfl <| rM rfl rfl <| rN <| ATodo.stop <| ?_
        obtain rfl := Option.some.inj h
        exact hJ1 _ _ rfl <| ImpX.lq [] rfl rfl rfl
    · refine have h := iteF hc h; ATodo.exit rfl <| have h := outL h hA1; tSR <| rA rfl rfl <| rN <| ATodo.ret <| ?_
      obtain rfl := Option.some.inj h
      exact ImpX.here ⟨_, .cons (.tmp _ _ rfl) .nil, rfl⟩

set_option maxHeartbeats 4000000 in
theorem Q_NotesOf_1x_c [GI : GTab] {p0x0 : Note} {p1x0 : Note} {r : Bool} (h : Q_NotesOf_1x p0x0 p1x0 = r) : Pu Tryd.prog 86 [.agg [.str p0x0.Letter.Id, .str p0x0.Letter.Slot, .str p0x0.Letter.Body, I p0x0.Letter.Prio, I p0x0.Letter.At, I p0x0.Letter.Until, I p0x0.State, I p0x0.Tries, I p0x0.Since], .rptr [.str p1x0.Letter.Id, .str p1x0.Letter.Slot, .str p1x0.Letter.Body, I p1x0.Letter.Prio, I p1x0.Letter.At, I p1x0.Letter.Until, I p1x0.State, I p1x0.Tries, I p1x0.Since]] (.bool r) := by
  unfold Q_NotesOf_1x at h
  refine ACall.bodyN Tryd.func86 rfl Tryd.ntmps86 Tryd.results86 rfl rfl ?_
  refine tSR <| n_box rfl rfl rfl rfl fun b1 => rA rfl rfl <| rN <| tSR <| rF rfl rfl rfl <| rF rfl rfl rfl <| rL rfl rfl .p0 rfl rfl <| ARun.qv (n_field_rptr rfl rfl) rfl <| ARun.qv (n_field_rptr rfl rfl) rfl <| ARun.qv (q_load_rptr rfl rfl rfl) rfl <| ARun.qv (q_seq rfl rfl) rfl <| rA rfl rfl <| rN <| ATodo.ret <| ?_
  obtain rfl := h
  exact ImpX.here ⟨_, .cons (.tmp _ _ rfl) .nil, rfl⟩

set_option maxHeartbeats 4000000 in
theorem slices_IndexFunc_Note_Note_c [GI : GTab] {p0x0 : List Note} {fnb : Note → Option Bool} {fnb_F : FuncId} [IsFn Tryd.prog fnb_F] {fnb_C : List AV} (fnb_h : ∀ {y0 : _} {u : Bool}, fnb y0 = some u → Pu Tryd.prog fnb_F (.agg [.str y0.Letter.Id, .str y0.Letter.Slot, .str y0.Letter.Body, I y0.Letter.Prio, I y0.Letter.At, I y0.Letter.Until, I y0.State, I y0.Tries, I y0.Since] ::  fnb_C) (.bool u)) {r : Int} (h : slices_IndexFunc_Note_Note p0x0 fnb = some r) : Pu Tryd.prog 85 [.list 9 (p0x0.map Note.av), .func (.func fnb_F) fnb_C] (I r) := by
  unfold slices_IndexFunc_Note_Note at h
  refine ACall.bodyN Tryd.func85 rfl Tryd.ntmps85 Tryd.results85 rfl rfl ?_
  refine tSR <| rA rfl rfl <| rN <| tS <| tSR <| rM rfl rfl <| ARun.qv (t_len rfl) rfl <| rM rfl rfl <| rN <| ATodo.block <| ATodo.loopI (fun x : Int => slices_IndexFunc_Note_Note_b1 p0x0 fnb x) (fun x σ' => σ' = ⟨19, [(0, .list 9 (p0x0.map Note.av)), (1, .func (.func fnb_F) fnb_C), (7, I (p0x0.length : Int)), (8, I x)], []⟩) h ?_ ?_
  · exact ImpX.lq [] rfl rfl rfl
  · intro n2 z1 σ' J1 hmk h hJ1 hA1
    obtain rfl := hmk
    replace h : slices_IndexFunc_Note_Note_b1 p0x0 fnb n2 = some z1 := h
    unfold slices_IndexFunc_Note_Note_b1 at h
    refine tSR <| ARun.qv (q_lss rfl rfl) rfl <| rN <| tS <| ATodo.cond_d rfl (fun hc => ?_) (fun hc => ?_)
    · refine have h := iteT hc h; tK <| tS <| ATodo.block <| tSR <| rM rfl rfl <| rA rfl rfl <| rN <| tSR <| rM rfl rfl <| rM rfl rfl <| rM rfl rfl <| bndE h fun v3 e1 h => ARun.qv (t_index rfl rfl rfl e1 rfl rfl) rfl <| ARun.qv (q_load_rptr_agg rfl rfl rfl) rfl <| bndE h fun v4 e2 h => r_callvp rfl rfl (fnb_h e2) (CoL.refl _) rfl <| rN <| ATodo.cond rfl (fun hc => ?_) (fun hc => ?_)
      · refine have h := iteT hc h; tSR <| rM rfl rfl <| rA rfl rfl <| rN <| ATodo.ret <| have h := outL h hA1; ?_
        obtain rfl := Option.some.inj h
        exact ImpX.here ⟨_, .cons (.tmp _ _ rfl) .nil, rfl⟩
      · refine have h := iteFb hc h; tK <| ATodo.blk <| tR <| ARun.qv (q_addw rfl rfl) rfl <| rM rfl rfl <| rN <| ATodo.stop <| ?_
        obtain rfl := Option.some.inj h
        exact hJ1 _ _ rfl <| ImpX.lq [] rfl rfl rfl
    · refine have h := iteF hc h; ATodo.exit rfl <| have h := outL h hA1; tSR <| rA rfl rfl <| rN <| ATodo.ret <| ?_
      obtain rfl := Option.some.inj h
      exact ImpX.here ⟨_, .cons (.tmp _ _ rfl) .nil, rfl⟩

set_option maxHeartbeats 4000000 in
theorem Q_gone_c [GI : GTab] {p0x0 : Note} {r : (List Int)} (h : Q_gone p0x0 = some r) : ACall Tryd.prog 88 [.agg [.str p0x0.Letter.Id, .str p0x0.Letter.Slot, .str p0x0.Letter.Body, I p0x0.Letter.Prio, I p0x0.Letter.At, I p0x0.Letter.Until, I p0x0.State, I p0x0.Tries, I p0x0.Since]] [] (T1 (fun d_0 => [(d_0, .arr 1 (r.map I))]) (fun d_0 => .sl 1 d_0 0 r.length)) := by
  unfold Q_gone at h
  refine ACall.lessH ?_
  refine ACall.bodyN Tryd.func88 rfl Tryd.ntmps88 Tryd.results88 rfl rfl ?_
  refine tSR <| n_box rfl rfl rfl rfl fun b1 => rA rfl rfl <| rN <| tSR <| t_makeMap rfl fun b2 => t_insert (gk := I) (gv := I) (M := ([] : List (Int × Int))) (key := (3 : Int)) (v := (5 : Int)) rfl rfl rfl rfl .p0 <| t_insert (gk := I) (gv := I) (M := (mset ([] : List (Int × Int)) (3 : Int) (5 : Int))) (key := (4 : Int)) (v := (4 : Int)) rfl rfl rfl rfl .p0 <| t_insert (gk := I) (gv := I) (M := (mset (mset ([] : List (Int × Int)) (3 : Int) (5 : Int)) (4 : Int) (4 : Int))) (key := (7 : Int)) (v := (3 : Int)) rfl rfl rfl rfl .p0 <| t_insert (gk := I) (gv := I) (M := (mset (mset (mset ([] : List (Int × Int)) (3 : Int) (5 : Int)) (4 : Int) (4 : Int)) (7 : Int) (3 : Int))) (key := (5 : Int)) (v := (2 : Int)) rfl rfl rfl rfl .p0 <| t_insert (gk := I) (gv := I) (M := (mset (mset (mset (mset ([] : List (Int × Int)) (3 : Int) (5 : Int)) (4 : Int) (4 : Int)) (7 : Int) (3 : Int)) (5 : Int) (2 : Int))) (key := (6 : Int)) (v := (1 : Int)) rfl rfl rfl rfl .p0 <| rM rfl rfl <| rF rfl rfl rfl <| rL rfl rfl .p1 rfl rfl <| bndE h fun v3 e1 h => ARun.qv (t_lookup (gk := I) (gv := I) (M := (mset (mset (mset (mset (mset ([] : List (Int × Int)) (3 : Int) (5 : Int)) (4 : Int) (4 : Int)) (7 : Int) (3 : Int)) (5 : Int) (2 : Int)) (6 : Int) (1 : Int))) (key := p0x0.State) (Z := (0 : Int)) rfl rfl .p0 rfl rfl rfl e1 rfl) rfl <| rA rfl rfl <| rN <| tSR <| rM rfl rfl <| rF rfl rfl rfl <| rL rfl rfl .p1 rfl rfl <| rF rfl rfl rfl <| rL rfl rfl .p1 rfl rfl <| ARun.qv (t_negw rfl) rfl <| rF rfl rfl rfl <| rL rfl rfl .p1 rfl rfl <| ARun.qv (t_negw rfl) rfl <| n_buildSlice rfl rfl rfl rfl rfl rfl fun b4 => rA rfl rfl <| rN <| ATodo.ret <| ?_
  obtain rfl := Option.some.inj h
  exact ImpX.here ⟨_, .cons (.tmp _ _ rfl) .nil, _, .cons .p0 .nil, ⟨b4, rfl, rfl⟩⟩

set_option maxHeartbeats 4000000 in
theorem slices_Compare_int_int_c [GI : GTab] {p0x0 : List Int} {p1x0 : List Int} {r : Int} (h : slices_Compare_int_int p0x0 p1x0 = some r) : Pu Tryd.prog 87 [.list 1 (p0x0.map I), .list 1 (p1x0.map I)] (I r) := by
  unfold slices_Compare_int_int at h
  refine ACall.bodyN Tryd.func87 rfl Tryd.ntmps87 Tryd.results87 rfl rfl ?_
  refine tSR <| rA rfl rfl <| rN <| tS <| tSR <| rM rfl rfl <| ARun.qv (t_len rfl) rfl <| rM rfl rfl <| rN <| ATodo.block <| ATodo.loopI (fun x : Int => slices_Compare_int_int_b1 p0x0 p1x0 x) (fun x σ' => σ' = ⟨36, [(0, .list 1 (p0x0.map I)), (1, .list 1 (p1x0.map I)), (9, .list 1 (p0x0.map I)), (10, I (p0x0.length : Int)), (11, I x)], []⟩) h ?_ ?_
  · exact ImpX.lq [] rfl rfl rfl
  · intro n2 z1 σ' J1 hmk h hJ1 hA1
    obtain rfl := hmk
    replace h : slices_Compare_int_int_b1 p0x0 p1x0 n2 = some z1 := h
    unfold slices_Compare_int_int_b1 at h
    refine tSR <| ARun.qv (q_lss rfl rfl) rfl <| rN <| tS <| ATodo.cond_d rfl (fun hc => ?_) (fun hc => ?_)
    · refine have h := iteT hc h; tK <| tS <| ATodo.block <| tSR <| rM rfl rfl <| bndE h fun v3 e1 h => ARun.qv (t_index rfl rfl rfl e1 rfl rfl) rfl <| ARun.qv (q_load_rptr rfl rfl rfl) rfl <| rA rfl rfl <| rA rfl rfl <| rN <| tS <| tSR <| rM rfl rfl <| rM rfl rfl <| ARun.qv (t_len rfl) rfl <| ARun.qv (q_geq rfl rfl) rfl <| rN <| ATodo.cond_d rfl (fun hc => ?_) (fun hc => ?_)
      · refine have h := iteT hc h; tSR <| rA rfl rfl <| rN <| ATodo.ret <| have h := outL h hA1; ?_
        obtain rfl := Option.some.inj h
        exact ImpX.here ⟨_, .cons (.tmp _ _ rfl) .nil, rfl⟩
      · refine have h := iteF hc h; tK <| tSR <| rM rfl rfl <| rM rfl rfl <| bndE h fun v4 e2 h => ARun.qv (t_index rfl rfl rfl e2 rfl rfl) rfl <| ARun.qv (q_load_rptr rfl rfl rfl) rfl <| rA rfl rfl <| rN <| tSR <| rM rfl rfl <| rM rfl rfl <| r_callp rfl (cmp_Compare_int_c rfl) (CoL.refl _) rfl <| rA rfl rfl <| rN <| tSR <| rM rfl rfl <| ARun.qv (q_neq rfl rfl) rfl <| rN <| ATodo.cond_d rfl (fun hc => ?_) (fun hc => ?_)
        · refine have h := iteT hc h; tSR <| rM rfl rfl <| rA rfl rfl <| rN <| ATodo.ret <| have h := outL h hA1; ?_
          obtain rfl := Option.some.inj h
          exact ImpX.here ⟨_, .cons (.tmp _ _ rfl) .nil, rfl⟩
        · refine have h := iteF hc h; tK <| ATodo.blk <| tR <| ARun.qv (q_addw rfl rfl) rfl <| rM rfl rfl <| rN <| ATodo.stop <| ?_
          obtain rfl := Option.some.inj h
          exact hJ1 _ _ rfl <| ImpX.lq [] rfl rfl rfl
    · refine have h := iteF hc h; ATodo.exit rfl <| have h := outL h hA1; ?_
      unfold slices_Compare_int_int_k1 at h
      refine tS <| tSR <| rM rfl rfl <| ARun.qv (t_len rfl) rfl <| rM rfl rfl <| ARun.qv (t_len rfl) rfl <| ARun.qv (q_lss rfl rfl) rfl <| rN <| ATodo.cond_d rfl (fun hc => ?_) (fun hc => ?_)
      · refine have h := iteT hc h; tSR <| rA rfl rfl <| rN <| ATodo.ret <| ?_
        obtain rfl := Option.some.inj h
        exact ImpX.here ⟨_, .cons (.tmp _ _ rfl) .nil, rfl⟩
      · refine have h := iteF hc h; tK <| tSR <| rA rfl rfl <| rN <| ATodo.ret <| ?_
        obtain rfl := Option.some.inj h
        exact ImpX.here ⟨_, .cons (.tmp _ _ rfl) .nil, rfl⟩

set_option maxHeartbeats 4000000 in
theorem Q_NotesOf_2x_c [GI : GTab] {p0x0 : Note} {p1x0 : Note} {r : Int} (h : Q_NotesOf_2x p0x0 p1x0 = r) : Pu Tryd.prog 90 [.agg [.str p0x0.Letter.Id, .str p0x0.Letter.Slot, .str p0x0.Letter.Body, I p0x0.Letter.Prio, I p0x0.Letter.At, I p0x0.Letter.Until, I p0x0.State, I p0x0.Tries, I p0x0.Since], .agg [.str p1x0.Letter.Id, .str p1x0.Letter.Slot, .str p1x0.Letter.Body, I p1x0.Letter.Prio, I p1x0.Letter.At, I p1x0.Letter.Until, I p1x0.State, I p1x0.Tries, I p1x0.Since]] (I r) := by
  unfold Q_NotesOf_2x at h
  refine ACall.bodyN Tryd.func90 rfl Tryd.ntmps90 Tryd.results90 rfl rfl ?_
  refine tSR <| n_box rfl rfl rfl rfl fun b1 => n_box rfl rfl rfl rfl fun b2 => rA rfl rfl <| rN <| tSR <| rF rfl rfl rfl <| rF rfl rfl rfl <| rL rfl rfl .p1 rfl rfl <| rF rfl rfl rfl <| rF rfl rfl rfl <| rL rfl rfl .p0 rfl rfl <| r_callp rfl (strings_Compare_c rfl) (CoL.refl _) rfl <| rA rfl rfl <| rN <| ATodo.ret <| ?_
  obtain rfl := h
  exact ImpX.here ⟨_, .cons (.tmp _ _ rfl) .nil, rfl⟩

set_option maxHeartbeats 4000000 in
theorem slices_SortFunc_Note_Note_k : SortK Tryd.prog 89 9 := ⟨fun enc hk h1 cf hO g cb blk off cap d w eg hc hH hb hs => AnyQ.slices_SortFunc_eq Tryd.sortF89 9 Tryd.isAgg63 Tryd.sizeOf63 enc hk h1 cf hO g cb blk off cap d w eg hc hH hb hs, fun p cap fv w => AnyF.slices_SortFunc_none Tryd.sortF89 p cap fv w⟩
theorem slices_SortFunc_Note_Note_c [GI : GTab] {b_0 : Bk} {p0x0 : List Note} {fnb : Note → Note → Option Int} {fnb_F : FuncId} [IsFn Tryd.prog fnb_F] {fnb_C : List AV} (fnb_h : ∀ {y0 y1 : _} {u : Int}, fnb y0 y1 = some u → @Pu strongT Tryd.prog fnb_F (Note.av y0 :: Note.av y1 :: fnb_C) (I u)) {r : (List Note)} (h : slices_SortFunc_Note_Note p0x0 fnb = some r) : ACall Tryd.prog 89 [.sl 9 b_0 0 p0x0.length, .func (.func fnb_F) fnb_C] [(b_0, .arr 9 (p0x0.map Note.av))] (T0 [(b_0, .arr 9 (r.map Note.av))] (.tup [])) :=
  sort_acall (fn := fnb) slices_SortFunc_Note_Note_k rfl @fnb_h (fun _ => rfl) h

set_option maxHeartbeats 4000000 in
theorem Q_NotesOf_c [GI : GTab] {p0x0 : List Note} {p1x0 : List Note} {r : (List Note) × Int} (h : Q_NotesOf p0x0 p1x0 = some r) : ACall Tryd.prog 31 [.list 9 (p0x0.map Note.av), .list 9 (p1x0.map Note.av)] [] (T1 (fun d_0 => [(d_0, .arr 9 (r.1.map Note.av))]) (fun d_0 => .tup [.sl 9 d_0 0 r.1.length, I r.2])) := by
  unfold Q_NotesOf at h
  refine ACall.lessH ?_
  refine ACall.bodyN Tryd.func31 rfl Tryd.ntmps31 Tryd.results31 rfl rfl ?_
  refine tSR <| rA rfl rfl <| rA rfl rfl <| rN <| tSR <| rM rfl rfl <| bndE h fun v1 e1 h => t_call1 rfl (slices_Clone_Note_Note_c e1) (CoL.refl _) .nil (fun _ => rfl) rfl fun b2 => rA rfl rfl <| rN <| tS <| tSR <| rM rfl rfl <| ARun.qv (t_len rfl) rfl <| rM rfl rfl <| rN <| ATodo.block <| ATodo.loopI (fun x : (List Note) × Int => Q_NotesOf_b1 p1x0 x.1 x.2) (fun x σ' => ∃ (b6 : Bk), σ' = ⟨58, [(6, .sl 9 b6 0 x.1.length), (12, .list 9 (p1x0.map Note.av)), (13, I (p1x0.length : Int)), (14, I x.2)], [(b6, .arr 9 (x.1.map Note.av))]⟩) h ?_ ?_
  · exact ImpX.lq [0] ⟨b2, rfl⟩ rfl rfl
  · intro x z1 σ' J1 hmk h hJ1 hA1
    obtain ⟨l7, n8⟩ := x
    obtain ⟨b6, rfl⟩ := hmk
    replace h : Q_NotesOf_b1 p1x0 l7 n8 = some z1 := h
    unfold Q_NotesOf_b1 at h
    refine tSR <| ARun.qv (q_lss rfl rfl) rfl <| rN <| tS <| ATodo.cond_d rfl (fun hc => ?_) (fun hc => ?_)
    · refine have h := iteT hc h; tK <| tS <| ATodo.block <| tSR <| bndE h fun v9 e2 h => ARun.qv (t_index rfl rfl rfl e2 rfl rfl) rfl <| ARun.qv (q_load_rptr_agg rfl rfl rfl) rfl <| n_alloc rfl rfl rfl rfl fun b10 => n_store_ptr rfl rfl rfl rfl .p0 rfl rfl <| rN <| tSR <| rM rfl rfl <| ARun.qv (q_makeFunc rfl) rfl <| bndE h fun v11 e3 h => r_callpB rfl (slices_IndexFunc_Note_Note_c (fun e => Q_NotesOf_1x_c (Option.some.inj e)) e3) (.cons (CoB.arrT .p1) (.cons (.funcL _ _ _ (.cons (.boxL _ _ _ .p0 (.cons (.co (.refl _)) (.cons (.co (.refl _)) (.cons (.co (.refl _)) (.cons (.co (.refl _)) (.cons (.co (.refl _)) (.cons (.co (.refl _)) (.cons (.co (.refl _)) (.cons (.co (.refl _)) (.cons (.co (.refl _)) .nil)))))))))) .nil)) .nil)) rfl rfl <| rA rfl rfl <| rN <| ATodo.block <| tSR <| rM rfl rfl <| ARun.qv (q_lss rfl rfl) rfl <| rA rfl rfl <| rN <| ATodo.cut (fun σ' => ∃ (b12 : Bk) (l13 : List Note), Q_NotesOf_j1 n8 l13 = some z1 ∧ σ' = ⟨58, [(6, .sl 9 b12 0 l13.length), (12, .list 9 (p1x0.map Note.av)), (13, I (p1x0.length : Int)), (14, I n8)], [(b12, .arr 9 (l13.map Note.av))]⟩) ?_ ?_
      · refine ATodo.cond_d rfl (fun hc => ?_) (fun hc => ?_)
        · exact have h := iteT hc h; tR <| rM rfl rfl <| ARun.qv (q_load_ptr_all rfl rfl .p0 rfl) rfl <| n_buildSliceL (xs := ([v9] : List Note).map Note.av) rfl rfl rfl rfl rfl rfl <| bndE h fun l14 e4 h => t_append (g := Note.av) rfl rfl rfl rfl rfl rfl rfl rfl (.list _) e4 (fun _ => .p1) rfl fun b15 => rA rfl rfl <| rN <| ATodo.stop <| ImpX.lq [1] ⟨b15, l14, h, rfl⟩ rfl rfl
        · refine have h := iteF hc h; tS <| ATodo.regionM (id := 8) (A := [0, 0, 3, 7, 15, 0, 32, 127, 255]) 9 mixed rfl (by kernel_rfl) (by kernel_rfl) <| AM.qv (q_move rfl) rfl <| AM.qv (q_move rfl) rfl <| bndE h fun v16 e5 h => AM.qv (t_index_sl rfl rfl rfl e5) rfl <| AM.qv (t_field_aptr rfl rfl) rfl <| AM.qv (t_load_aptr_part (g := Note.av) rfl rfl (.inl .p1) e5 rfl rfl) rfl <| AM.qv (n_field_ptr rfl rfl) rfl <| AM.qv (n_load_ptr_part rfl rfl .p0 rfl rfl) rfl <| AM.qv (t_tne (g := Letter.av) (X := v16.Letter) (Y := v9.Letter) rfl rfl rfl rfl rfl) rfl <| AM.qv (q_assign rfl) rfl <| AM.nil <| rN <| ATodo.cond_d rfl (fun hc => ?_) (fun hc => ?_)
          · refine have h := iteT hc h; tSR <| rA rfl rfl <| rA rfl rfl <| rN <| ATodo.ret <| have h := outL h hA1; ?_
            obtain rfl := Option.some.inj h
            exact ImpX.arr (s := 4) 9 rfl fun b17 => ImpX.here ⟨_, .cons (.tmp _ _ rfl) (.cons (.tmp _ _ rfl) .nil), _, .cons .p0 .nil, ⟨b17, rfl, rfl⟩⟩
          · refine have h := iteF hc h; tS <| bndE h fun v18 e6 h => bndE h fun v20 e7 h => ATodo.regionT (id := 10) (A := [0, 1, 0, 0, 12, 28, 63, 127, 255, 511]) (H0 := []) (HH := fun β => [((β 1), .arr 1 (v18.map I)), (b10, .cells [.str v9.Letter.Id, .str v9.Letter.Slot, .str v9.Letter.Body, I v9.Letter.Prio, I v9.Letter.At, I v9.Letter.Until, I v9.State, I v9.Tries, I v9.Since]), (b6, .arr 9 (l7.map Note.av))]) 6 mixed rfl (by kernel_rfl) (by kernel_rfl) [⟨some 1, none, [], fun b => (b, .arr 1 (v18.map I)), none⟩] [1] rfl (by kernel_rfl) rfl .nil (fun _ => rfl) <| AT.am 1 rfl rfl <| AM.qv (q_load_ptr_all rfl rfl .p0 rfl) rfl <| AM.nil <| AT.runD (V := fun b => .sl 1 b 0 v18.length) (Ti := []) (Pi := fun b => [(b, .arr 1 (v18.map I))]) (fun _ => rfl) (fun _ => rfl) (fun _ _ => rfl) rfl (fun _ => rfl) rfl rfl rfl ?_ ?_
            · exact t_call1 rfl (Q_gone_c e6) (CoL.refl _) .nil (fun _ => rfl) rfl fun b19 => ARun.nil ⟨b19, _, rfl, rfl⟩
            refine AT.am 4 rfl rfl <| AM.qv (q_move rfl) rfl <| AM.qv (q_move rfl) rfl <| AM.qv (t_index_sl rfl rfl rfl e7) rfl <| AM.qv (t_load_aptr_agg (g := Note.av) rfl rfl (.inl .p1) rfl e7 rfl) rfl <| AM.nil <| AT.nilN (fun _ => rfl) fun β => ?_
            generalize β 1 = b19
            clear β
            refine bndE h fun v21 e8 h => t_call1 rfl (Q_gone_c e8) (CoL.refl _) .nil (fun _ => rfl) rfl fun b22 => bndE h fun v23 e9 h => r_callpB rfl (slices_Compare_int_int_c e9) (.cons (CoB.arrT .p1) (.cons (CoB.arrT .p0) .nil)) rfl rfl <| ARun.qv (q_gtr rfl rfl) rfl <| rA rfl rfl <| rN <| ATodo.cut (fun σ' => ∃ (l24 : List Note), Q_NotesOf_j2 n8 l24 = some z1 ∧ σ' = ⟨58, [(6, .sl 9 b6 0 l24.length), (12, .list 9 (p1x0.map Note.av)), (13, I (p1x0.length : Int)), (14, I n8)], [(b6, .arr 9 (l24.map Note.av))]⟩) ?_ ?_
            · refine ATodo.cond_d rfl (fun hc => ?_) (fun hc => ?_)
              · exact have h := iteT hc h; tR <| rM rfl rfl <| rM rfl rfl <| ARun.qv (q_load_ptr_all rfl rfl .p2 rfl) rfl <| bndE h fun v25 e10 h => ARun.qv (t_index_sl rfl rfl rfl e10) rfl <| t_store_aptr1 (g := Note.av) (el' := v9) rfl rfl rfl rfl e10 rfl .p3 rfl <| ARun.ghost <| ImpX.eqs (s := 6) (av' := .sl 9 b6 0 (l7.set v11.toNat v9).length) rfl (by rw [List.length_set]) <| ImpX.here <| ARun.ghost <| ImpX.eqs (s := 18) (av' := .sl 9 b6 0 (l7.set v11.toNat v9).length) rfl (by rw [List.length_set]) <| ImpX.here <| ARun.ghost <| ImpX.eqs (s := 29) (av' := .sl 9 b6 0 (l7.set v11.toNat v9).length) rfl (by rw [List.length_set]) <| ImpX.here <| ARun.ghost <| ImpX.eqs (s := 40) (av' := .sl 9 b6 0 (l7.set v11.toNat v9).length) rfl (by rw [List.length_set]) <| ImpX.here <| ARun.ghost <| ImpX.eqs (s := 47) (av' := .sl 9 b6 0 (l7.set v11.toNat v9).length) rfl (by rw [List.length_set]) <| ImpX.here <| rN <| ATodo.stop <| ImpX.lq [3] ⟨l7.set v11.toNat v9, h, rfl⟩ rfl rfl
              · exact have h := iteF hc h; tK <| ATodo.stop <| ImpX.lq [3] ⟨l7, h, rfl⟩ rfl rfl
            · rintro σ' ⟨l24, h, rfl⟩
              unfold Q_NotesOf_j2 at h
              exact ATodo.stop <| ImpX.lq [0] ⟨b6, l24, h, rfl⟩ rfl rfl
      · rintro σ' ⟨b12, l13, h, rfl⟩
        unfold Q_NotesOf_j1 at h
        refine ATodo.blk <| ATodo.blk <| tR <| ARun.qv (q_addw rfl rfl) rfl <| rM rfl rfl <| rN <| ATodo.stop <| ?_
        obtain rfl := Option.some.inj h
        exact hJ1 _ _ rfl <| ImpX.lq [0] ⟨b12, rfl⟩ rfl rfl
    · refine have h := iteF hc h; ATodo.exit rfl <| have h := outL h hA1; ?_
      unfold Q_NotesOf_k3 at h
      refine tSR <| rM rfl rfl <| bndE h fun v26 e11 h => t_call0 rfl (slices_SortFunc_Note_Note_c (fun e => Q_NotesOf_2x_c (GI := strongT) (Option.some.inj e)) (lenOk_f e11)) (CoL.refl _) (.cons .p0 .nil) rfl rfl <| ARun.ghost <| ImpX.eqs (s := 6) (av' := .sl 9 b6 0 v26.length) rfl (congrArg (AV.sl 9 b6 0) (lenOk_l e11)) <| ImpX.here <| ARun.ghost <| ImpX.eqs (s := 52) (av' := .sl 9 b6 0 v26.length) rfl (congrArg (AV.sl 9 b6 0) (lenOk_l e11)) <| ImpX.here <| rN <| tS <| tSR <| rM rfl rfl <| ARun.qv (t_len_sl rfl) rfl <| ARun.qv (q_gtr rfl rfl) rfl <| rN <| ATodo.cond_d rfl (fun hc => ?_) (fun hc => ?_)
      · refine have h := iteT hc h; tSR <| rA rfl rfl <| rA rfl rfl <| rN <| ATodo.ret <| ?_
        obtain rfl := Option.some.inj h
        exact ImpX.arr (s := 4) 9 rfl fun b27 => ImpX.here ⟨_, .cons (.tmp _ _ rfl) (.cons (.tmp _ _ rfl) .nil), _, .cons .p0 .nil, ⟨b27, rfl, rfl⟩⟩
      · refine have h := iteF hc h; tK <| tSR <| rM rfl rfl <| rA rfl rfl <| rA rfl rfl <| rN <| ATodo.ret <| ?_
        obtain rfl := Option.some.inj h
        exact ImpX.here ⟨_, .cons (.tmp _ _ rfl) (.cons (.tmp _ _ rfl) .nil), _, .cons .p0 .nil, ⟨b6, rfl, rfl⟩⟩

set_option maxHeartbeats 4000000 in
theorem slices_Equal_Note_Note_c [GI : GTab] {p0x0 : List Note} {p1x0 : List Note} {r : Bool} (h : slices_Equal_Note_Note p0x0 p1x0 = some r) : Pu Tryd.prog 32 [.list 9 (p0x0.map Note.av), .list 9 (p1x0.map Note.av)] (.bool r) := by
  unfold slices_Equal_Note_Note at h
  refine ACall.bodyN Tryd.func32 rfl Tryd.ntmps32 Tryd.results32 rfl rfl ?_
  refine tSR <| rA rfl rfl <| rN <| tS <| tSR <| rM rfl rfl <| ARun.qv (t_len rfl) rfl <| rM rfl rfl <| ARun.qv (t_len rfl) rfl <| ARun.qv (q_neq rfl rfl) rfl <| rN <| ATodo.cond_d rfl (fun hc => ?_) (fun hc => ?_)
  · refine have h := iteT hc h; tSR <| rA rfl rfl <| rN <| ATodo.ret <| ?_
    obtain rfl := Option.some.inj h
    exact ImpX.here ⟨_, .cons (.tmp _ _ rfl) .nil, rfl⟩
  · refine have h := iteF hc h; tK <| tS <| tSR <| rM rfl rfl <| ARun.qv (t_len rfl) rfl <| rM rfl rfl <| rN <| ATodo.block <| ATodo.loopI (fun x : Int => slices_Equal_Note_Note_b1 p0x0 p1x0 x) (fun x σ' => σ' = ⟨26, [(0, .list 9 (p0x0.map Note.av)), (1, .list 9 (p1x0.map Note.av)), (12, I (p0x0.length : Int)), (13, I x)], []⟩) h ?_ ?_
    · exact ImpX.lq [] rfl rfl rfl
    · intro n2 z1 σ' J1 hmk h hJ1 hA1
      obtain rfl := hmk
      replace h : slices_Equal_Note_Note_b1 p0x0 p1x0 n2 = some z1 := h
      unfold slices_Equal_Note_Note_b1 at h
      refine tSR <| ARun.qv (q_lss rfl rfl) rfl <| rN <| tS <| ATodo.cond_d rfl (fun hc => ?_) (fun hc => ?_)
      · refine have h := iteT hc h; tK <| tS <| ATodo.block <| tSR <| rM rfl rfl <| rA rfl rfl <| rN <| tS <| ATodo.regionM (id := 6) (A := [0, 0, 3, 7, 0, 0, 48, 112, 255]) 9 mixed rfl (by kernel_rfl) (by kernel_rfl) <| AM.qv (q_move rfl) rfl <| AM.qv (q_move rfl) rfl <| bndE h fun v3 e1 h => AM.qv (t_index rfl rfl rfl e1 rfl rfl) rfl <| AM.qv (q_load_rptr_agg rfl rfl rfl) rfl <| AM.qv (q_move rfl) rfl <| AM.qv (q_move rfl) rfl <| bndE h fun v4 e2 h => AM.qv (t_index rfl rfl rfl e2 rfl rfl) rfl <| AM.qv (q_load_rptr_agg rfl rfl rfl) rfl <| AM.qv (t_tne (g := Note.av) (X := v3) (Y := v4) rfl rfl rfl rfl rfl) rfl <| AM.nil <| rN <| ATodo.cond_d rfl (fun hc => ?_) (fun hc => ?_)
        · refine have h := iteT hc h; tSR <| rA rfl rfl <| rN <| ATodo.ret <| have h := outL h hA1; ?_
          obtain rfl := Option.some.inj h
          exact ImpX.here ⟨_, .cons (.tmp _ _ rfl) .nil, rfl⟩
        · refine have h := iteF hc h; tK <| ATodo.blk <| tR <| ARun.qv (q_addw rfl rfl) rfl <| rM rfl rfl <| rN <| ATodo.stop <| ?_
          obtain rfl := Option.some.inj h
          exact hJ1 _ _ rfl <| ImpX.lq [] rfl rfl rfl
      · refine have h := iteF hc h; ATodo.exit rfl <| have h := outL h hA1; tSR <| rA rfl rfl <| rN <| ATodo.ret <| ?_
        obtain rfl := Option.some.inj h
        exact ImpX.here ⟨_, .cons (.tmp _ _ rfl) .nil, rfl⟩

set_option maxHeartbeats 4000000 in
theorem command_CheckPost_c [GI : GTab] {p0x0 : Post} {r : Int} (h : command_CheckPost p0x0 = r) : Pu Tryd.prog 146 [.agg [I p0x0.Room, I p0x0.Timeout, I p0x0.Tries, I p0x0.Kept]] (I r) := by
  unfold command_CheckPost at h
  refine ACall.bodyN Tryd.func146 rfl Tryd.ntmps146 Tryd.results146 rfl rfl ?_
  refine tSR <| n_box rfl rfl rfl rfl fun b1 => rA rfl rfl <| rN <| tS <| tS <| ATodo.cut (fun σ' => ∃ (c2 : Bool), command_CheckPost_j1 c2 = r ∧ σ' = ⟨21, [(20, .bool c2)], []⟩) ?_ ?_
  · refine tR <| rF rfl rfl rfl <| rL rfl rfl .p0 rfl rfl <| r_callp rfl (base_Out_c rfl) (CoL.refl _) rfl <| rM rfl rfl <| ARun.guard rfl rfl rfl (fun hc => ?_) (fun hc => ?_)
    · rw [orFb hc] at h
      refine rF rfl rfl rfl <| rY rfl rfl rfl <| rL rfl rfl .p0 rfl rfl <| rY rfl rfl rfl <| r_callp rfl (base_Out_c rfl) (CoL.refl _) rfl <| rE rfl rfl rfl <| rM rfl rfl <| ARun.guard rfl rfl rfl (fun hc => ?_) (fun hc => ?_)
      · rw [orFb hc] at h
        refine rF rfl rfl rfl <| rY rfl rfl rfl <| rL rfl rfl .p0 rfl rfl <| rY rfl rfl rfl <| r_callp rfl (base_Out_c rfl) (CoL.refl _) rfl <| rE rfl rfl rfl <| rM rfl rfl <| ARun.guard rfl rfl rfl (fun hc => ?_) (fun hc => ?_)
        · rw [orFb hc] at h
          exact rF rfl rfl rfl <| rY rfl rfl rfl <| rL rfl rfl .p0 rfl rfl <| rY rfl rfl rfl <| r_callp rfl (base_Out_c rfl) (CoL.refl _) rfl <| rE rfl rfl rfl <| rN <| ATodo.stop <| ImpX.lq [] ⟨(base_Out p0x0.Kept (0 : Int) (1000 : Int)), h, rfl⟩ rfl rfl
        · rw [orTb hc] at h
          exact rG rfl rfl rfl rfl <| rG rfl rfl rfl rfl <| rT rfl rfl rfl <| rN <| ATodo.stop <| ImpX.lq [] ⟨true, h, rfl⟩ rfl rfl
      · rw [orTb hc] at h
        exact rG rfl rfl rfl rfl <| rG rfl rfl rfl rfl <| rT rfl rfl rfl <| rM rfl rfl <| rG rfl rfl rfl rfl <| rG rfl rfl rfl rfl <| rG rfl rfl rfl rfl <| rT rfl rfl rfl <| rN <| ATodo.stop <| ImpX.lq [] ⟨true, h, rfl⟩ rfl rfl
    · rw [orTb hc] at h
      exact rG rfl rfl rfl rfl <| rG rfl rfl rfl rfl <| rT rfl rfl rfl <| rM rfl rfl <| rG rfl rfl rfl rfl <| rG rfl rfl rfl rfl <| rG rfl rfl rfl rfl <| rT rfl rfl rfl <| rM rfl rfl <| rG rfl rfl rfl rfl <| rG rfl rfl rfl rfl <| rG rfl rfl rfl rfl <| rT rfl rfl rfl <| rN <| ATodo.stop <| ImpX.lq [] ⟨true, h, rfl⟩ rfl rfl
  · rintro σ' ⟨c2, h, rfl⟩
    unfold command_CheckPost_j1 at h
    refine ATodo.cond rfl (fun hc => ?_) (fun hc => ?_)
    · refine have h := iteT hc h; tSR <| rA rfl rfl <| rN <| ATodo.ret <| ?_
      obtain rfl := h
      exact ImpX.here ⟨_, .cons (.tmp _ _ rfl) .nil, rfl⟩
    · refine have h := iteFb hc h; tK <| tSR <| rA rfl rfl <| rN <| ATodo.ret <| ?_
      obtain rfl := h
      exact ImpX.here ⟨_, .cons (.tmp _ _ rfl) .nil, rfl⟩

set_option maxHeartbeats 4000000 in
theorem command_New_c [GI : GTab] {p0x0 : Post} {r : (Option Command_Office) × Int} (h : command_New p0x0 = r) : ACall Tryd.prog 91 [.agg [I p0x0.Room, I p0x0.Timeout, I p0x0.Tries, I p0x0.Kept]] [] (TM r.1 (T0 ([]) (.tup [.raw (.pointer none), I r.2])) (fun x => T2 (fun d_0 d_0x4 => [(d_0, .cells [I x.post_.Room, I x.post_.Timeout, I x.post_.Tries, I x.post_.Kept, .mref d_0x4, I x.time_]), (d_0x4, .mp (x.notes_.map (fun e => (AV.str e.1, Note.av e.2))))]) (fun d_0 d_0x4 => .tup [.ptr d_0 0, I r.2]))) := by
  unfold command_New at h
  refine ACall.lessH ?_
  refine ACall.bodyN Tryd.func91 rfl Tryd.ntmps91 Tryd.results91 rfl rfl ?_
  refine tSR <| n_box rfl rfl rfl rfl fun b1 => rA rfl rfl <| rA rfl rfl <| rN <| tS <| tSR <| ARun.qv (q_load_ptr_all rfl rfl .p0 rfl) rfl <| r_callp rfl (command_CheckPost_c rfl) (CoL.refl _) rfl <| rA rfl rfl <| rN <| tSR <| rM rfl rfl <| ARun.qv (q_neq rfl rfl) rfl <| rN <| ATodo.cond_d rfl (fun hc => ?_) (fun hc => ?_)
  · refine have h := iteT hc h; tSR <| rM rfl rfl <| rA rfl rfl <| rA rfl rfl <| rN <| ATodo.ret <| ?_
    obtain rfl := h
    exact ImpX.here ⟨_, .cons (.tmp _ _ rfl) (.cons (.tmp _ _ rfl) .nil), _, .nil, ⟨rfl, rfl⟩⟩
  · refine have h := iteF hc h; tK <| tSR <| ARun.qv (q_load_ptr_all rfl rfl .p0 rfl) rfl <| t_makeMap rfl fun b2 => ARun.qv (n_build rfl rfl rfl rfl rfl) rfl <| n_box rfl rfl rfl rfl fun b3 => rA rfl rfl <| rA rfl rfl <| rN <| ATodo.ret <| ?_
    obtain rfl := h
    exact ImpX.here ⟨_, .cons (.tmp _ _ rfl) (.cons (.tmp _ _ rfl) .nil), _, .cons .p0 (.cons .p0 .nil), ⟨b3, b2, rfl, rfl⟩⟩

set_option maxHeartbeats 4000000 in
theorem command_Office_timeFault_c [GI : GTab] {b_0 : Bk} {b_0x4 : Bk} {p0x0 : Command_Office} {p1x0 : Int} {r : Int} (h : command_Office_timeFault p0x0 p1x0 = r) : ACall Tryd.prog 147 [.ptr b_0 0, I p1x0] [(b_0, .cells [I p0x0.post_.Room, I p0x0.post_.Timeout, I p0x0.post_.Tries, I p0x0.post_.Kept, .mref b_0x4, I p0x0.time_])] (T0 ([(b_0, .cells [I p0x0.post_.Room, I p0x0.post_.Timeout, I p0x0.post_.Tries, I p0x0.post_.Kept, .mref b_0x4, I p0x0.time_])]) (I r)) := by
  unfold command_Office_timeFault at h
  refine ACall.lessH ?_
  refine ACall.bodyN Tryd.func147 rfl Tryd.ntmps147 Tryd.results147 rfl rfl ?_
  refine tSR <| rA rfl rfl <| rN <| tS <| ATodo.block <| tSR <| rM rfl rfl <| r_callp rfl (base_Moment_c rfl) (CoL.refl _) rfl <| ARun.qv (q_not rfl) rfl <| rA rfl rfl <| rN <| ATodo.cond rfl (fun hc => ?_) (fun hc => ?_)
  · refine have h := iteT hc h; tSR <| rA rfl rfl <| rN <| ATodo.ret <| ?_
    obtain rfl := h
    exact ImpX.here ⟨_, .cons (.tmp _ _ rfl) .nil, _, .cons .p0 .nil, ⟨rfl, rfl⟩⟩
  · refine have h := iteFb hc h; tSR <| rM rfl rfl <| rM rfl rfl <| ARun.qv (q_nilCheck_ptr rfl) rfl <| rF rfl rfl rfl <| rL rfl rfl .p0 rfl rfl <| ARun.qv (q_lss rfl rfl) rfl <| rA rfl rfl <| rN <| ATodo.cond_d rfl (fun hc => ?_) (fun hc => ?_)
    · refine have h := iteT hc h; tSR <| rA rfl rfl <| rN <| ATodo.ret <| ?_
      obtain rfl := h
      exact ImpX.here ⟨_, .cons (.tmp _ _ rfl) .nil, _, .cons .p0 .nil, ⟨rfl, rfl⟩⟩
    · refine have h := iteF hc h; tK <| ATodo.blk <| tSR <| rA rfl rfl <| rN <| ATodo.ret <| ?_
      obtain rfl := h
      exact ImpX.here ⟨_, .cons (.tmp _ _ rfl) .nil, _, .cons .p0 .nil, ⟨rfl, rfl⟩⟩

set_option maxHeartbeats 4000000 in
theorem command_ended_c [GI : GTab] {p0x0 : Int} {r : Bool} (h : command_ended p0x0 = r) : Pu Tryd.prog 196 [I p0x0] (.bool r) := by
  unfold command_ended at h
  refine ACall.bodyN Tryd.func196 rfl Tryd.ntmps196 Tryd.results196 rfl rfl ?_
  refine tSR <| rA rfl rfl <| rN <| tSR <| rM rfl rfl <| ARun.qv (q_geq rfl rfl) rfl <| rA rfl rfl <| rN <| ATodo.ret <| ?_
  obtain rfl := h
  exact ImpX.here ⟨_, .cons (.tmp _ _ rfl) .nil, rfl⟩

set_option maxHeartbeats 4000000 in
theorem command_Office_turn_c [GI : GTab] {b_0 : Bk} {b_0x4 : Bk} {p0x0 : Command_Office} {p1x0 : Note} {r : Int} (h : command_Office_turn p0x0 p1x0 = r) : ACall Tryd.prog 237 [.ptr b_0 0, .agg [.str p1x0.Letter.Id, .str p1x0.Letter.Slot, .str p1x0.Letter.Body, I p1x0.Letter.Prio, I p1x0.Letter.At, I p1x0.Letter.Until, I p1x0.State, I p1x0.Tries, I p1x0.Since]] [(b_0, .cells [I p0x0.post_.Room, I p0x0.post_.Timeout, I p0x0.post_.Tries, I p0x0.post_.Kept, .mref b_0x4, I p0x0.time_])] (T0 ([(b_0, .cells [I p0x0.post_.Room, I p0x0.post_.Timeout, I p0x0.post_.Tries, I p0x0.post_.Kept, .mref b_0x4, I p0x0.time_])]) (I r)) := by
  unfold command_Office_turn at h
  refine ACall.lessH ?_
  refine ACall.bodyN Tryd.func237 rfl Tryd.ntmps237 Tryd.results237 rfl rfl ?_
  refine tSR <| n_box rfl rfl rfl rfl fun b1 => rA rfl rfl <| rN <| tS <| tSR <| rF rfl rfl rfl <| rL rfl rfl .p0 rfl rfl <| ARun.qv (q_eql rfl rfl) rfl <| rN <| ATodo.cond_d rfl (fun hc => ?_) (fun hc => ?_)
  · refine have h := iteT hc h; tS <| ATodo.regionM (id := 2) (A := [0, 1, 3, 0, 8, 0, 32, 96, 224, 480, 1016, 2047, 4095]) 13 mixed rfl (by kernel_rfl) (by kernel_rfl) <| AM.qv (n_field_ptr rfl rfl) rfl <| AM.qv (n_field_ptr rfl rfl) rfl <| AM.qv (q_load_ptr rfl rfl .p0 rfl) rfl <| AM.qv (n_field_ptr rfl rfl) rfl <| AM.qv (q_load_ptr rfl rfl .p0 rfl) rfl <| AM.qv (q_move rfl) rfl <| AM.qv (q_nilCheck_ptr rfl) rfl <| AM.qv (n_field_ptr rfl rfl) rfl <| AM.qv (n_field_ptr rfl rfl) rfl <| AM.qv (q_load_ptr rfl rfl .p1 rfl) rfl <| AM.qv (q_addw rfl rfl) rfl <| AM.qv (q_min rfl rfl) rfl <| AM.qv (q_assign rfl) rfl <| AM.nil <| rN <| ATodo.ret <| ?_
    obtain rfl := h
    exact ImpX.here ⟨_, .cons (.tmp _ _ rfl) .nil, _, .cons .p1 .nil, ⟨rfl, rfl⟩⟩
  · refine have h := iteF hc h; tK <| tSR <| rF rfl rfl rfl <| rF rfl rfl rfl <| rL rfl rfl .p0 rfl rfl <| rA rfl rfl <| rN <| ATodo.ret <| ?_
    obtain rfl := h
    exact ImpX.here ⟨_, .cons (.tmp _ _ rfl) .nil, _, .cons .p1 .nil, ⟨rfl, rfl⟩⟩

set_option maxHeartbeats 4000000 in
theorem command_Office_grown_c [GI : GTab] {b_0 : Bk} {b_0x4 : Bk} {p0x0 : Command_Office} {p1x0 : Note} {p2x0 : Int} {r : Note} (h : command_Office_grown p0x0 p1x0 p2x0 = some r) : ACall Tryd.prog 195 [.ptr b_0 0, .agg [.str p1x0.Letter.Id, .str p1x0.Letter.Slot, .str p1x0.Letter.Body, I p1x0.Letter.Prio, I p1x0.Letter.At, I p1x0.Letter.Until, I p1x0.State, I p1x0.Tries, I p1x0.Since], I p2x0] [(b_0, .cells [I p0x0.post_.Room, I p0x0.post_.Timeout, I p0x0.post_.Tries, I p0x0.post_.Kept, .mref b_0x4, I p0x0.time_])] (T0 ([(b_0, .cells [I p0x0.post_.Room, I p0x0.post_.Timeout, I p0x0.post_.Tries, I p0x0.post_.Kept, .mref b_0x4, I p0x0.time_])]) (.agg [.str r.Letter.Id, .str r.Letter.Slot, .str r.Letter.Body, I r.Letter.Prio, I r.Letter.At, I r.Letter.Until, I r.State, I r.Tries, I r.Since])) := by
  unfold command_Office_grown at h
  refine ACall.lessH ?_
  refine ACall.bodyN Tryd.func195 rfl Tryd.ntmps195 Tryd.results195 rfl rfl ?_
  refine tSR <| n_box rfl rfl rfl rfl fun b1 => n_alloc rfl rfl rfl rfl fun b2 => rN <| tS <| ATodo.cut (fun σ' => ∃ (n3 : Int) (n4 : Int), command_Office_grown_j1 p1x0 n3 n4 = some r ∧ σ' = ⟨39, [(4, .ptr b1 0), (6, .ptr b2 0)], [(b_0, .cells [I p0x0.post_.Room, I p0x0.post_.Timeout, I p0x0.post_.Tries, I p0x0.post_.Kept, .mref b_0x4, I p0x0.time_]), (b1, .cells [.str p1x0.Letter.Id, .str p1x0.Letter.Slot, .str p1x0.Letter.Body, I p1x0.Letter.Prio, I p1x0.Letter.At, I p1x0.Letter.Until, I n3, I p1x0.Tries, I n4]), (b2, .cells [.str [], .str [], .str [], I (0 : Int), I (0 : Int), I (0 : Int), I (0 : Int), I (0 : Int), I (0 : Int)])]⟩) ?_ ?_
  · refine ATodo.block <| ATodo.loopI (fun x : Int × Int => command_Office_grown_b1 p0x0 p1x0 p2x0 x.1 x.2) (fun x σ' => σ' = ⟨39, [(0, .ptr b_0 0), (2, I p2x0), (4, .ptr b1 0), (6, .ptr b2 0)], [(b_0, .cells [I p0x0.post_.Room, I p0x0.post_.Timeout, I p0x0.post_.Tries, I p0x0.post_.Kept, .mref b_0x4, I p0x0.time_]), (b1, .cells [.str p1x0.Letter.Id, .str p1x0.Letter.Slot, .str p1x0.Letter.Body, I p1x0.Letter.Prio, I p1x0.Letter.At, I p1x0.Letter.Until, I x.1, I p1x0.Tries, I x.2]), (b2, .cells [.str [], .str [], .str [], I (0 : Int), I (0 : Int), I (0 : Int), I (0 : Int), I (0 : Int), I (0 : Int)])]⟩) h ?_ ?_
    · exact ImpX.lq [2, 1, 0] rfl rfl rfl
    · intro x z1 σ' J1 hmk h hJ1 hA1
      obtain ⟨n7, n8⟩ := x
      obtain rfl := hmk
      replace h : command_Office_grown_b1 p0x0 p1x0 p2x0 n7 n8 = some z1 := h
      unfold command_Office_grown_b1 at h
      refine tS <| tSR <| rF rfl rfl rfl <| rL rfl rfl .p1 rfl rfl <| r_callp rfl (command_ended_c rfl) (CoL.refl _) rfl <| ARun.qv (q_not rfl) rfl <| rN <| ATodo.cond rfl (fun hc => ?_) (fun hc => ?_)
      · refine have h := iteT hc h; tK <| ATodo.block <| tSR <| rM rfl rfl <| ARun.qv (q_load_ptr_all rfl rfl .p1 rfl) rfl <| t_call0 rfl (command_Office_turn_c (rfl : command_Office_turn p0x0 (⟨p1x0.Letter, n7, p1x0.Tries, n8⟩ : Note) = _)) (CoL.refl _) (.cons .p0 .nil) rfl rfl <| rA rfl rfl <| rN <| tS <| tSR <| rM rfl rfl <| rM rfl rfl <| ARun.qv (q_gtr rfl rfl) rfl <| rN <| ATodo.cond_d rfl (fun hc => ?_) (fun hc => ?_)
        · exact have h := iteT hc h; ATodo.exit rfl <| have h := outL h hA1; ATodo.stop <| ImpX.lq [0, 0, 0] ⟨n7, n8, h, rfl⟩ rfl rfl
        · refine have h := iteF hc h; tK <| tSR <| rM rfl rfl <| rF rfl rfl rfl <| n_store_ptr rfl rfl rfl rfl .p1 rfl rfl <| rN <| ATodo.block <| tSR <| rM rfl rfl <| rF rfl rfl rfl <| rF rfl rfl rfl <| rL rfl rfl .p1 rfl rfl <| ARun.qv (q_eql rfl rfl) rfl <| rA rfl rfl <| rN <| ATodo.cut (fun σ' => ∃ (n9 : Int), command_Office_grown_j2 p0x0 p1x0 n7 n8 n9 = some z1 ∧ σ' = ⟨39, [(0, .ptr b_0 0), (2, I p2x0), (4, .ptr b1 0), (6, .ptr b2 0)], [(b_0, .cells [I p0x0.post_.Room, I p0x0.post_.Timeout, I p0x0.post_.Tries, I p0x0.post_.Kept, .mref b_0x4, I p0x0.time_]), (b1, .cells [.str p1x0.Letter.Id, .str p1x0.Letter.Slot, .str p1x0.Letter.Body, I p1x0.Letter.Prio, I p1x0.Letter.At, I p1x0.Letter.Until, I n9, I p1x0.Tries, I (command_Office_turn p0x0 (⟨p1x0.Letter, n7, p1x0.Tries, n8⟩ : Note))]), (b2, .cells [.str [], .str [], .str [], I (0 : Int), I (0 : Int), I (0 : Int), I (0 : Int), I (0 : Int), I (0 : Int)])]⟩) ?_ ?_
          · refine ATodo.cond_d rfl (fun hc => ?_) (fun hc => ?_)
            · exact have h := iteT hc h; tR <| rF rfl rfl rfl <| n_store_ptr rfl rfl rfl rfl .p1 rfl rfl <| rN <| ATodo.stop <| ImpX.lq [0, 0, 0] ⟨(5 : Int), h, rfl⟩ rfl rfl
            · refine have h := iteF hc h; tS <| ATodo.regionM (id := 8) (A := [0, 1, 0, 4, 12, 28, 60, 127, 255]) 9 mixed rfl (by kernel_rfl) (by kernel_rfl) <| AM.qv (n_field_ptr rfl rfl) rfl <| AM.qv (q_load_ptr rfl rfl .p1 rfl) rfl <| AM.qv (q_move rfl) rfl <| AM.qv (q_nilCheck_ptr rfl) rfl <| AM.qv (n_field_ptr rfl rfl) rfl <| AM.qv (n_field_ptr rfl rfl) rfl <| AM.qv (q_load_ptr rfl rfl .p0 rfl) rfl <| AM.qv (q_eql rfl rfl) rfl <| AM.qv (q_assign rfl) rfl <| AM.nil <| rN <| ATodo.cut (fun σ' => ∃ (n10 : Int), command_Office_grown_j3 p0x0 p1x0 n7 n8 n10 = some z1 ∧ σ' = ⟨39, [(0, .ptr b_0 0), (2, I p2x0), (4, .ptr b1 0), (6, .ptr b2 0)], [(b_0, .cells [I p0x0.post_.Room, I p0x0.post_.Timeout, I p0x0.post_.Tries, I p0x0.post_.Kept, .mref b_0x4, I p0x0.time_]), (b1, .cells [.str p1x0.Letter.Id, .str p1x0.Letter.Slot, .str p1x0.Letter.Body, I p1x0.Letter.Prio, I p1x0.Letter.At, I p1x0.Letter.Until, I n10, I p1x0.Tries, I (command_Office_turn p0x0 (⟨p1x0.Letter, n7, p1x0.Tries, n8⟩ : Note))]), (b2, .cells [.str [], .str [], .str [], I (0 : Int), I (0 : Int), I (0 : Int), I (0 : Int), I (0 : Int), I (0 : Int)])]⟩) ?_ ?_
              · refine ATodo.cond_d rfl (fun hc => ?_) (fun hc => ?_)
                · exact have h := iteT hc h; tR <| rF rfl rfl rfl <| n_store_ptr rfl rfl rfl rfl .p1 rfl rfl <| rN <| ATodo.stop <| ImpX.lq [0, 0, 0] ⟨(7 : Int), h, rfl⟩ rfl rfl
                · exact have h := iteF hc h; tR <| rF rfl rfl rfl <| n_store_ptr rfl rfl rfl rfl .p1 rfl rfl <| rN <| ATodo.stop <| ImpX.lq [0, 0, 0] ⟨(1 : Int), h, rfl⟩ rfl rfl
              · rintro σ' ⟨n10, h, rfl⟩
                unfold command_Office_grown_j3 at h
                exact ATodo.stop <| ImpX.lq [0, 0, 0] ⟨n10, h, rfl⟩ rfl rfl
          · rintro σ' ⟨n9, h, rfl⟩
            unfold command_Office_grown_j2 at h
            refine ATodo.blk <| ATodo.blk <| ATodo.stop <| ?_
            obtain rfl := Option.some.inj h
            exact hJ1 _ _ rfl <| ImpX.lq [0, 0, 0] rfl rfl rfl
      · exact have h := iteFb hc h; ATodo.exit rfl <| have h := outL h hA1; ATodo.stop <| ImpX.lq [0, 0, 0] ⟨n7, n8, h, rfl⟩ rfl rfl
  · rintro σ' ⟨n3, n4, h, rfl⟩
    unfold command_Office_grown_j1 at h
    refine tSR <| ARun.qv (q_load_ptr_all rfl rfl .p1 rfl) rfl <| n_store_ptr rfl rfl rfl rfl .p2 rfl rfl <| rN <| ATodo.ret <| ?_
    obtain rfl := Option.some.inj h
    exact ImpX.here ⟨_, .cons (.all _ _ _ _ _ _ rfl .p2 TUnder.h TInfo.h rfl rfl) .nil, _, .cons .p0 .nil, ⟨rfl, rfl⟩⟩

set_option maxHeartbeats 4000000 in
theorem command_Office_aged_1x_c [GI : GTab] {p0x0 : Note} {p1x0 : Note} {r : Int} (h : command_Office_aged_1x p0x0 p1x0 = some r) : Pu Tryd.prog 197 [.agg [.str p0x0.Letter.Id, .str p0x0.Letter.Slot, .str p0x0.Letter.Body, I p0x0.Letter.Prio, I p0x0.Letter.At, I p0x0.Letter.Until, I p0x0.State, I p0x0.Tries, I p0x0.Since], .agg [.str p1x0.Letter.Id, .str p1x0.Letter.Slot, .str p1x0.Letter.Body, I p1x0.Letter.Prio, I p1x0.Letter.At, I p1x0.Letter.Until, I p1x0.State, I p1x0.Tries, I p1x0.Since]] (I r) := by
  unfold command_Office_aged_1x at h
  refine ACall.bodyN Tryd.func197 rfl Tryd.ntmps197 Tryd.results197 rfl rfl ?_
  refine tSR <| n_box rfl rfl rfl rfl fun b1 => n_box rfl rfl rfl rfl fun b2 => rA rfl rfl <| rN <| tS <| ATodo.regionM (id := 1) (A := [0, 1, 0, 4, 15, 0, 32, 96, 0, 256, 768, 2047, 4095, 8191, 16383]) 15 mixed rfl (by kernel_rfl) (by kernel_rfl) <| AM.qv (n_field_ptr rfl rfl) rfl <| AM.qv (q_load_ptr rfl rfl .p1 rfl) rfl <| AM.qv (n_field_ptr rfl rfl) rfl <| AM.qv (q_load_ptr rfl rfl .p0 rfl) rfl <| AM.callp rfl (cmp_Compare_int_c rfl) (CoL.refl _) rfl <| AM.qv (n_field_ptr rfl rfl) rfl <| AM.qv (n_field_ptr rfl rfl) rfl <| AM.qv (q_load_ptr rfl rfl .p1 rfl) rfl <| AM.qv (n_field_ptr rfl rfl) rfl <| AM.qv (n_field_ptr rfl rfl) rfl <| AM.qv (q_load_ptr rfl rfl .p0 rfl) rfl <| AM.callp rfl (strings_Compare_c rfl) (CoL.refl _) rfl <| AM.buildSliceL (xs := ([(cmp_Compare_int p0x0.Since p1x0.Since), (Lib.compareBytes p0x0.Letter.Id p1x0.Letter.Id)] : List Int).map I) rfl rfl rfl rfl rfl rfl <| bndE h fun v3 e1 h => AM.callp rfl (cmp_Or_int_c e1) (CoL.refl _) rfl <| AM.qv (q_assign rfl) rfl <| AM.nil <| rN <| ATodo.ret <| ?_
  obtain rfl := Option.some.inj h
  exact ImpX.here ⟨_, .cons (.tmp _ _ rfl) .nil, rfl⟩

set_option maxHeartbeats 4000000 in
theorem command_Office_aged_c [GI : GTab] {b_0 : Bk} {b_0x4 : Bk} {p0x0 : Command_Office} {p1x0 : Int} {r : (List (Str × Note))} (h : command_Office_aged p0x0 p1x0 = some r) : ACall Tryd.prog 148 [.ptr b_0 0, I p1x0] [(b_0, .cells [I p0x0.post_.Room, I p0x0.post_.Timeout, I p0x0.post_.Tries, I p0x0.post_.Kept, .mref b_0x4, I p0x0.time_]), (b_0x4, .mp (p0x0.notes_.map (fun e => (AV.str e.1, Note.av e.2))))] (T1 (fun d_0 => [(b_0, .cells [I p0x0.post_.Room, I p0x0.post_.Timeout, I p0x0.post_.Tries, I p0x0.post_.Kept, .mref b_0x4, I p0x0.time_]), (b_0x4, .mp (p0x0.notes_.map (fun e => (AV.str e.1, Note.av e.2)))), (d_0, .mp (r.map (fun e => (AV.str e.1, Note.av e.2))))]) (fun d_0 => .mref d_0)) := by
  unfold command_Office_aged at h
  refine ACall.lessH ?_
  refine ACall.bodyN Tryd.func148 rfl Tryd.ntmps148 Tryd.results148 rfl rfl ?_
  refine tSR <| rA rfl rfl <| rN <| tSR <| t_makeMap rfl fun b1 => rA rfl rfl <| rN <| tSR <| rA rfl rfl <| rN <| tS <| tSR <| rM rfl rfl <| ARun.qv (q_nilCheck_ptr rfl) rfl <| rF rfl rfl rfl <| rL rfl rfl .p1 rfl rfl <| t_range (M := p0x0.notes_) (enc := (fun e => (AV.str e.1, Note.av e.2))) rfl (fun _ _ => .p2) rfl fun b2 Le1 ce1 hLe1 hIe1 => rN <| ATodo.block <| ATodo.loopMap (fun e (x : (List (Str × Note)) × (List Note)) => command_Office_aged_b1 p0x0 p1x0 e x.1 x.2) (fun x : (List (Str × Note)) × (List Note) => command_Office_aged_f1 p0x0 x.1 x.2) (fun R x σ' => ∃ (b7 : Bk) (s1m : List Nat), MIter Le1 ce1 s1m (R.map (fun e => (AV.str e.1, Note.av e.2))) ∧ σ' = ⟨60, [(0, .ptr b_0 0), (1, I p1x0), (5, .mref b1), (6, .sl 9 b7 0 x.2.length), (16, .ptr b2 0)], [(b_0, .cells [I p0x0.post_.Room, I p0x0.post_.Timeout, I p0x0.post_.Tries, I p0x0.post_.Kept, .mref b_0x4, I p0x0.time_]), (b_0x4, .mpb Le1 ce1), (b2, .mit b_0x4 ce1 s1m), (b1, .mp (x.1.map (fun e => (AV.str e.1, Note.av e.2)))), (b7, .arr 9 (x.2.map Note.av))]⟩) h ?_ ?_
  · exact ImpX.arr (s := 6) 9 rfl fun b9 => ImpX.lq [3, 3, 1, 1, 0] ⟨b9, [], hIe1, rfl⟩ rfl rfl
  · intro R1 x σ' J1 hmk hH1 hK1
    obtain ⟨l6, l8⟩ := x
    obtain ⟨b7, s1m, hI1m, rfl⟩ := hmk
    refine tSR <| t_next rfl hI1m .p1 (fun _ => .p2) rfl (fun hN => ?_) (fun v1m R' sv1m hP hlen hIv1m hCv1m => ?_)
    · have h := nilL hH1 hN
      replace h : command_Office_aged_f1 p0x0 l6 l8 = _ := h
      unfold command_Office_aged_f1 at h
      refine ARun.ghost <| ImpX.mpDone hLe1 .p1 <| ImpX.here <| rX rfl rfl rfl <| rN <| tS <| ATodo.cond_f rfl <| ATodo.exit rfl <| tSR <| rM rfl rfl <| bndE h fun v10 e2 h => t_call0 rfl (slices_SortFunc_Note_Note_c (fun e => command_Office_aged_1x_c (GI := strongT) e) (lenOk_f e2)) (CoL.refl _) (.cons .p4 .nil) rfl rfl <| ARun.ghost <| ImpX.eqs (s := 6) (av' := .sl 9 b7 0 v10.length) rfl (congrArg (AV.sl 9 b7 0) (lenOk_l e2)) <| ImpX.here <| ARun.ghost <| ImpX.eqs (s := 36) (av' := .sl 9 b7 0 v10.length) rfl (congrArg (AV.sl 9 b7 0) (lenOk_l e2)) <| ImpX.here <| rN <| tS <| tSR <| rM rfl rfl <| rM rfl rfl <| ARun.qv (t_len_sl rfl) rfl <| rM rfl rfl <| ARun.qv (q_nilCheck_ptr rfl) rfl <| rF rfl rfl rfl <| rF rfl rfl rfl <| rL rfl rfl .p1 rfl rfl <| ARun.qv (q_subw rfl rfl) rfl <| ARun.qv (q_max rfl rfl) rfl <| bndE h fun l11 e3 h => ARun.qv (t_slice_sl rfl rfl .none (.some _ _ _ rfl) rfl rfl e3) rfl <| ARun.qv (t_len_sub rfl) rfl <| rM rfl rfl <| rN <| ATodo.block <| ATodo.loopI (fun x : (List (Str × Note)) × Int => command_Office_aged_b2 v10 l11 x.1 x.2) (fun x σ' => σ' = ⟨60, [(5, .mref b1), (48, .sl 9 b7 0 l11.length), (49, I (l11.length : Int)), (50, I x.2)], [(b_0, .cells [I p0x0.post_.Room, I p0x0.post_.Timeout, I p0x0.post_.Tries, I p0x0.post_.Kept, .mref b_0x4, I p0x0.time_]), (b_0x4, .mp (p0x0.notes_.map (fun e => (AV.str e.1, Note.av e.2)))), (b1, .mp (x.1.map (fun e => (AV.str e.1, Note.av e.2)))), (b7, .arr 9 (v10.map Note.av))]⟩) h ?_ ?_
      · exact ImpX.lq [1, 1, 2, 0] rfl rfl rfl
      · intro x z2 σ' J2 hmk h hJ2 hA2
        obtain ⟨l14, n15⟩ := x
        obtain rfl := hmk
        replace h : command_Office_aged_b2 v10 l11 l14 n15 = some z2 := h
        unfold command_Office_aged_b2 at h
        refine tSR <| ARun.qv (q_lss rfl rfl) rfl <| rN <| tS <| ATodo.cond_d rfl (fun hc => ?_) (fun hc => ?_)
        · refine have h := iteT hc h; tK <| tS <| ATodo.block <| tSR <| bndE h fun v16 e4 h => ARun.qv (t_index_sub (L := (0 : Int)) rfl rfl rfl e4) rfl <| ARun.qv (t_load_aptr_agg (g := Note.av) rfl rfl (.inl .p3) rfl (idxS_some e4).2 rfl) rfl <| n_alloc rfl rfl rfl rfl fun b17 => n_store_ptr rfl rfl rfl rfl .p0 rfl rfl <| rN <| tR <| rM rfl rfl <| rF rfl rfl rfl <| rF rfl rfl rfl <| rL rfl rfl .p0 rfl rfl <| t_delete (gk := AV.str) (gv := Note.av) (M := l14) (key := v16.Letter.Id) rfl rfl .p3 <| rN <| ATodo.blk <| tR <| ARun.qv (q_addw rfl rfl) rfl <| rM rfl rfl <| rN <| ATodo.stop <| ?_
          obtain rfl := Option.some.inj h
          exact hJ2 _ _ rfl <| ImpX.lq [1, 1, 1, 1] rfl rfl rfl
        · refine have h := iteF hc h; ATodo.exit rfl <| have h := outL h hA2; tSR <| rM rfl rfl <| rA rfl rfl <| rN <| ATodo.ret <| ?_
          obtain rfl := Option.some.inj h
          exact ImpX.here ⟨_, .cons (.tmp _ _ rfl) .nil, _, .cons .p0 (.cons .p0 (.cons .p0 .nil)), ⟨b1, rfl, rfl⟩⟩
    · obtain ⟨z1, h, hN1, hA1⟩ := stepL hH1 hP
      replace h : command_Office_aged_b1 p0x0 p1x0 v1m l6 l8 = some z1 := h
      unfold command_Office_aged_b1 at h
      have hJ1 := fun y σ' (e : z1 = .inl y) hi => hK1 R' y σ' hlen (hN1 y e) hi
      clear hN1 hP hK1 hH1
      refine rX rfl rfl rfl <| rN <| tS <| ATodo.cond_t rfl <| tK <| ATodo.block <| tSR <| ARun.qv (t_entry rfl .p2 .p1 hCv1m rfl rfl) rfl <| rX rfl rfl rfl <| rX rfl rfl rfl <| n_alloc rfl rfl rfl rfl fun b18 => rA rfl rfl <| n_store_ptr rfl rfl rfl rfl .p0 rfl rfl <| rN <| tSR <| rM rfl rfl <| ARun.qv (q_load_ptr_all rfl rfl .p0 rfl) rfl <| rM rfl rfl <| bndE h fun v19 e5 h => t_call0 rfl (command_Office_grown_c e5) (CoL.refl _) (.cons .p1 .nil) rfl rfl <| n_store_ptr rfl rfl rfl rfl .p1 rfl rfl <| rN <| tSR <| rM rfl rfl <| rM rfl rfl <| ARun.qv (q_load_ptr_all rfl rfl .p1 rfl) rfl <| t_mapUpdate (gk := AV.str) (gv := Note.av) (M := l6) (key := v1m.1) (v := v19) rfl rfl rfl rfl .p4 <| rN <| tSR <| rF rfl rfl rfl <| rL rfl rfl .p1 rfl rfl <| r_callp rfl (command_ended_c rfl) (CoL.refl _) rfl <| rN <| ATodo.cut (fun σ' => ∃ (b20 : Bk) (l21 : List Note), command_Office_aged_j1 l6 v1m v19 l21 = some z1 ∧ σ' = ⟨60, [(0, .ptr b_0 0), (1, I p1x0), (5, .mref b1), (6, .sl 9 b20 0 l21.length), (16, .ptr b2 0)], [(b_0, .cells [I p0x0.post_.Room, I p0x0.post_.Timeout, I p0x0.post_.Tries, I p0x0.post_.Kept, .mref b_0x4, I p0x0.time_]), (b_0x4, .mpb Le1 ce1), (b1, .mp ((mset l6 v1m.1 v19).map (fun e => (AV.str e.1, Note.av e.2)))), (b20, .arr 9 (l21.map Note.av)), (b2, .mit b_0x4 ce1 sv1m)]⟩) ?_ ?_
      · refine ATodo.cond rfl (fun hc => ?_) (fun hc => ?_)
        · exact have h := iteT hc h; tR <| rM rfl rfl <| ARun.qv (q_load_ptr_all rfl rfl .p1 rfl) rfl <| n_buildSliceL (xs := ([v19] : List Note).map Note.av) rfl rfl rfl rfl rfl rfl <| bndE h fun l22 e6 h => t_append (g := Note.av) rfl rfl rfl rfl rfl rfl rfl rfl (.list _) e6 (fun _ => .p5) rfl fun b23 => rA rfl rfl <| rN <| ATodo.stop <| ImpX.lq [0, 1, 2, 2, 1] ⟨b23, l22, h, rfl⟩ rfl rfl
        · exact have h := iteFb hc h; tK <| ATodo.stop <| ImpX.lq [0, 1, 2, 2, 1] ⟨b7, l8, h, rfl⟩ rfl rfl
      · rintro σ' ⟨b20, l21, h, rfl⟩
        unfold command_Office_aged_j1 at h
        refine ATodo.blk <| ATodo.stop <| ?_
        obtain rfl := Option.some.inj h
        exact hJ1 _ _ rfl <| ImpX.lq [0, 0, 2, 0, 0] ⟨b20, sv1m, hIv1m, rfl⟩ rfl rfl

set_option maxHeartbeats 4000000 in
theorem command_pending_c [GI : GTab] {b_0 : Bk} {p0x0 : List (Str × Note)} {r : Int} (h : command_pending p0x0 = some r) : ACall Tryd.prog 149 [.mref b_0] [(b_0, .mp (p0x0.map (fun e => (AV.str e.1, Note.av e.2))))] (T0 ([(b_0, .mp (p0x0.map (fun e => (AV.str e.1, Note.av e.2))))]) (I r)) := by
  unfold command_pending at h
  refine ACall.lessH ?_
  refine ACall.bodyN Tryd.func149 rfl Tryd.ntmps149 Tryd.results149 rfl rfl ?_
  refine tSR <| rA rfl rfl <| rN <| tSR <| rA rfl rfl <| rN <| tS <| tSR <| rM rfl rfl <| t_range (M := p0x0) (enc := (fun e => (AV.str e.1, Note.av e.2))) rfl (fun _ _ => .p0) rfl fun b1 Le1 ce1 hLe1 hIe1 => rN <| ATodo.block <| ATodo.loopMap (fun e (x : Int) => command_pending_b1 e x) (fun x : Int => command_pending_f1 x) (fun R x σ' => ∃ (s1m : List Nat), MIter Le1 ce1 s1m (R.map (fun e => (AV.str e.1, Note.av e.2))) ∧ σ' = ⟨19, [(3, I x), (7, .ptr b1 0)], [(b_0, .mpb Le1 ce1), (b1, .mit b_0 ce1 s1m)]⟩) h ?_ ?_
  · exact ImpX.lq [1, 0] ⟨[], hIe1, rfl⟩ rfl rfl
  · intro R1 n3 σ' J1 hmk hH1 hK1
    obtain ⟨s1m, hI1m, rfl⟩ := hmk
    refine tSR <| t_next rfl hI1m .p0 (fun _ => .p1) rfl (fun hN => ?_) (fun v1m R' sv1m hP hlen hIv1m hCv1m => ?_)
    · have h := nilL hH1 hN
      replace h : command_pending_f1 n3 = _ := h
      unfold command_pending_f1 at h
      refine ARun.ghost <| ImpX.mpDone hLe1 .p0 <| ImpX.here <| rX rfl rfl rfl <| rN <| tS <| ATodo.cond_f rfl <| ATodo.exit rfl <| tSR <| rM rfl rfl <| rA rfl rfl <| rN <| ATodo.ret <| ?_
      obtain rfl := Option.some.inj h
      exact ImpX.here ⟨_, .cons (.tmp _ _ rfl) .nil, _, .cons .p0 .nil, ⟨rfl, rfl⟩⟩
    · obtain ⟨z1, h, hN1, hA1⟩ := stepL hH1 hP
      replace h : command_pending_b1 v1m n3 = some z1 := h
      unfold command_pending_b1 at h
      have hJ1 := fun y σ' (e : z1 = .inl y) hi => hK1 R' y σ' hlen (hN1 y e) hi
      clear hN1 hP hK1 hH1
      refine rX rfl rfl rfl <| rN <| tS <| ATodo.cond_t rfl <| tK <| ATodo.block <| tSR <| ARun.qv (t_entry rfl .p1 .p0 hCv1m rfl rfl) rfl <| rX rfl rfl rfl <| n_alloc rfl rfl rfl rfl fun b4 => n_store_ptr rfl rfl rfl rfl .p0 rfl rfl <| rN <| tSR <| rF rfl rfl rfl <| rL rfl rfl .p0 rfl rfl <| r_callp rfl (command_ended_c rfl) (CoL.refl _) rfl <| ARun.qv (q_not rfl) rfl <| rN <| ATodo.cut (fun σ' => ∃ (n5 : Int), command_pending_j1 n5 = some z1 ∧ σ' = ⟨19, [(3, I n5), (7, .ptr b1 0)], [(b_0, .mpb Le1 ce1), (b1, .mit b_0 ce1 sv1m)]⟩) ?_ ?_
      · refine ATodo.cond rfl (fun hc => ?_) (fun hc => ?_)
        · exact have h := iteT hc h; tR <| rM rfl rfl <| ARun.qv (q_addw rfl rfl) rfl <| rA rfl rfl <| rN <| ATodo.stop <| ImpX.lq [1, 1] ⟨w64 (n3 + (1 : Int)), h, rfl⟩ rfl rfl
        · exact have h := iteFb hc h; tK <| ATodo.stop <| ImpX.lq [1, 1] ⟨n3, h, rfl⟩ rfl rfl
      · rintro σ' ⟨n5, h, rfl⟩
        unfold command_pending_j1 at h
        refine ATodo.blk <| ATodo.stop <| ?_
        obtain rfl := Option.some.inj h
        exact hJ1 _ _ rfl <| ImpX.lq [0, 0] ⟨sv1m, hIv1m, rfl⟩ rfl rfl

set_option maxHeartbeats 4000000 in
theorem command_Office_keep_c [GI : GTab] {b_0 : Bk} {b_0x4 : Bk} {b_1 : Bk} {p0x0 : Command_Office} {p1x0 : List (Str × Note)} {p2x0 : Int} {r : Command_Office} (h : command_Office_keep p0x0 p1x0 p2x0 = r) : ACall Tryd.prog 150 [.ptr b_0 0, .mref b_1, I p2x0] [(b_0, .cells [I p0x0.post_.Room, I p0x0.post_.Timeout, I p0x0.post_.Tries, I p0x0.post_.Kept, .mref b_0x4, I p0x0.time_]), (b_0x4, .mp (p0x0.notes_.map (fun e => (AV.str e.1, Note.av e.2)))), (b_1, .mp (p1x0.map (fun e => (AV.str e.1, Note.av e.2))))] (T1 (fun c_0x4 => [(b_0, .cells [I r.post_.Room, I r.post_.Timeout, I r.post_.Tries, I r.post_.Kept, .mref c_0x4, I r.time_]), (c_0x4, .mp (r.notes_.map (fun e => (AV.str e.1, Note.av e.2))))]) (fun c_0x4 => .tup [])) := by
  unfold command_Office_keep at h
  refine ACall.lessH ?_
  refine ACall.bodyN Tryd.func150 rfl Tryd.ntmps150 Tryd.results150 rfl rfl ?_
  refine tR <| rM rfl rfl <| rM rfl rfl <| rM rfl rfl <| rM rfl rfl <| ARun.qv (q_nilCheck_ptr rfl) rfl <| rF rfl rfl rfl <| n_store_ptr rfl rfl rfl rfl .p0 rfl rfl <| ARun.qv (q_nilCheck_ptr rfl) rfl <| rF rfl rfl rfl <| n_store_ptr rfl rfl rfl rfl .p0 rfl rfl <| rN <| ATodo.nil <| ?_
  obtain rfl := h
  exact ImpX.here ⟨_, .nil, _, .cons .p0 (.cons .p1 .nil), ⟨b_1, rfl, rfl⟩⟩

set_option maxHeartbeats 4000000 in
theorem command_Office_Put_c {b_0 : Bk} {b_0x4 : Bk} {p0x0 : Command_Office} {p1x0 : Letter} {r : Int × Command_Office} (h : command_Office_Put p0x0 p1x0 = some r) : ACall Tryd.prog 92 [.ptr b_0 0, .agg [.str p1x0.Id, .str p1x0.Slot, .str p1x0.Body, I p1x0.Prio, I p1x0.At, I p1x0.Until]] [(b_0, .cells [I p0x0.post_.Room, I p0x0.post_.Timeout, I p0x0.post_.Tries, I p0x0.post_.Kept, .mref b_0x4, I p0x0.time_]), (b_0x4, .mp (p0x0.notes_.map (fun e => (AV.str e.1, Note.av e.2))))] (T1 (fun c_0x4 => [(b_0, .cells [I r.2.post_.Room, I r.2.post_.Timeout, I r.2.post_.Tries, I r.2.post_.Kept, .mref c_0x4, I r.2.time_]), (c_0x4, .mp (r.2.notes_.map (fun e => (AV.str e.1, Note.av e.2))))]) (fun c_0x4 => I r.1)) := by
  unfold command_Office_Put at h
  refine ACall.lessH ?_
  refine ACall.bodyN Tryd.func92 rfl Tryd.ntmps92 Tryd.results92 rfl rfl ?_
  refine tSR <| n_box rfl rfl rfl rfl fun b1 => rA rfl rfl <| rN <| tS <| tS <| ATodo.regionM (id := 1) (A := [0, 1, 0, 0, 8, 31, 63, 127, 255]) 5 mixed rfl (by kernel_rfl) (by kernel_rfl) <| AM.qv (q_load_ptr_all rfl rfl .p0 rfl) rfl <| bndE h fun v2 e1 h => AM.callp rfl (command_CheckLetter_c e1) (CoL.refl _) rfl <| AM.qv (q_move rfl) rfl <| AM.qv (n_field_ptr rfl rfl) rfl <| AM.qv (q_load_ptr rfl rfl .p0 rfl) rfl <| AM.nil <| t_call0 rfl (command_Office_timeFault_c rfl) (CoL.refl _) (.cons .p1 .nil) rfl rfl <| n_buildSliceL (xs := ([v2, (command_Office_timeFault p0x0 p1x0.At)] : List Int).map I) rfl rfl rfl rfl rfl rfl <| bndE h fun v3 e2 h => r_callp rfl (base_First_c e2) (CoL.refl _) rfl <| rA rfl rfl <| rN <| tSR <| rM rfl rfl <| ARun.qv (q_neq rfl rfl) rfl <| rN <| ATodo.cond_d rfl (fun hc => ?_) (fun hc => ?_)
  · refine have h := iteT hc h; tSR <| rM rfl rfl <| rA rfl rfl <| rN <| ATodo.ret <| ?_
    obtain rfl := Option.some.inj h
    exact ImpX.here ⟨_, .cons (.tmp _ _ rfl) .nil, _, .cons .p0 (.cons .p1 .nil), ⟨b_0x4, rfl, rfl⟩⟩
  · refine have h := iteF hc h; tK <| tSR <| rM rfl rfl <| rF rfl rfl rfl <| rL rfl rfl .p1 rfl rfl <| bndE h fun v4 e3 h => t_call1 rfl (command_Office_aged_c e3) (CoL.refl _) (.cons .p0 (.cons .p1 .nil)) (fun _ => rfl) rfl fun b5 => rA rfl rfl <| rN <| tS <| tSR <| rM rfl rfl <| rF rfl rfl rfl <| rL rfl rfl .p3 rfl rfl <| bndE h fun v6 e4 h => ARun.qv (t_lookup2 (gk := AV.str) (gv := Note.av) (M := v4) (key := p1x0.Id) (Z := (⟨(⟨[], [], [], (0 : Int), (0 : Int), (0 : Int)⟩ : Letter), (0 : Int), (0 : Int), (0 : Int)⟩ : Note)) rfl rfl .p2 rfl rfl rfl e4 rfl) rfl <| rM rfl rfl <| rX rfl rfl rfl <| rX rfl rfl rfl <| n_alloc rfl rfl rfl rfl fun b7 => n_store_ptr rfl rfl rfl rfl .p0 rfl rfl <| rA rfl rfl <| rN <| tSR <| rM rfl rfl <| rN <| ATodo.cond rfl (fun hc => ?_) (fun hc => ?_)
    · refine have h := iteT hc h; tSR <| rA rfl rfl <| rN <| ATodo.ret <| ?_
      obtain rfl := Option.some.inj h
      exact ImpX.here ⟨_, .cons (.tmp _ _ rfl) .nil, _, .cons .p1 (.cons .p1 .nil), ⟨b_0x4, rfl, rfl⟩⟩
    · refine have h := iteFb hc h; tK <| tSR <| rA rfl rfl <| rN <| tS <| tSR <| rM rfl rfl <| t_range (M := v4) (enc := (fun e => (AV.str e.1, Note.av e.2))) rfl (fun _ _ => .p3) rfl fun b8 Le5 ce5 hLe5 hIe5 => rN <| ATodo.block <| ATodo.loopMap (fun e (x : Str) => command_Office_Put_b1 p1x0 e x) (fun x : Str => command_Office_Put_f1 p0x0 p1x0 v4 x) (fun R x σ' => ∃ (s1m : List Nat), MIter Le5 ce5 s1m (R.map (fun e => (AV.str e.1, Note.av e.2))) ∧ σ' = ⟨103, [(0, .ptr b_0 0), (3, .ptr b1 0), (6, .mref b5), (9, .str x), (38, .ptr b8 0)], [(b_0, .cells [I p0x0.post_.Room, I p0x0.post_.Timeout, I p0x0.post_.Tries, I p0x0.post_.Kept, .mref b_0x4, I p0x0.time_]), (b_0x4, .mp (p0x0.notes_.map (fun e => (AV.str e.1, Note.av e.2)))), (b8, .mit b5 ce5 s1m), (b5, .mpb Le5 ce5), (b1, .cells [.str p1x0.Id, .str p1x0.Slot, .str p1x0.Body, I p1x0.Prio, I p1x0.At, I p1x0.Until])]⟩) h ?_ ?_
      · exact ImpX.lq [2, 2, 0, 1, 1] ⟨[], hIe5, rfl⟩ rfl rfl
      · intro R1 q10 σ' J1 hmk hH1 hK1
        obtain ⟨s1m, hI1m, rfl⟩ := hmk
        refine tSR <| t_next rfl hI1m .p3 (fun _ => .p2) rfl (fun hN => ?_) (fun v1m R' sv1m hP hlen hIv1m hCv1m => ?_)
        · have h := nilL hH1 hN
          replace h : command_Office_Put_f1 p0x0 p1x0 v4 q10 = _ := h
          unfold command_Office_Put_f1 at h
          refine ARun.ghost <| ImpX.mpDone hLe5 .p3 <| ImpX.here <| rX rfl rfl rfl <| rN <| tS <| ATodo.cond_f rfl <| ATodo.exit rfl <| tSR <| rM rfl rfl <| ARun.qv (q_nilCheck_ptr rfl) rfl <| rF rfl rfl rfl <| rF rfl rfl rfl <| rL rfl rfl .p0 rfl rfl <| rA rfl rfl <| rN <| tS <| tSR <| rM rfl rfl <| ARun.qv (q_sne rfl rfl) rfl <| rN <| ATodo.cut (fun σ' => ∃ (n11 : Int), command_Office_Put_j1 p0x0 p1x0 v4 q10 n11 = some r ∧ σ' = ⟨103, [(0, .ptr b_0 0), (3, .ptr b1 0), (6, .mref b5), (9, .str q10), (12, I n11)], [(b_0, .cells [I p0x0.post_.Room, I p0x0.post_.Timeout, I p0x0.post_.Tries, I p0x0.post_.Kept, .mref b_0x4, I p0x0.time_]), (b_0x4, .mp (p0x0.notes_.map (fun e => (AV.str e.1, Note.av e.2)))), (b1, .cells [.str p1x0.Id, .str p1x0.Slot, .str p1x0.Body, I p1x0.Prio, I p1x0.At, I p1x0.Until]), (b5, .mp (v4.map (fun e => (AV.str e.1, Note.av e.2))))]⟩) ?_ ?_
          · refine ATodo.cond_d rfl (fun hc => ?_) (fun hc => ?_)
            · exact have h := iteT hc h; tR <| rM rfl rfl <| ARun.qv (q_addw rfl rfl) rfl <| rA rfl rfl <| rN <| ATodo.stop <| ImpX.lq [0, 0, 2, 1] ⟨w64 (p0x0.post_.Room + (1 : Int)), h, rfl⟩ rfl rfl
            · exact have h := iteF hc h; tK <| ATodo.stop <| ImpX.lq [0, 0, 2, 1] ⟨p0x0.post_.Room, h, rfl⟩ rfl rfl
          · rintro σ' ⟨n11, h, rfl⟩
            unfold command_Office_Put_j1 at h
            refine tS <| tSR <| rM rfl rfl <| bndE h fun v12 e6 h => t_call0 rfl (command_pending_c e6) (CoL.refl _) (.cons .p3 .nil) rfl rfl <| rM rfl rfl <| ARun.qv (q_geq rfl rfl) rfl <| rN <| ATodo.cond_d rfl (fun hc => ?_) (fun hc => ?_)
            · refine have h := iteT hc h; tSR <| rA rfl rfl <| rN <| ATodo.ret <| ?_
              obtain rfl := Option.some.inj h
              exact ImpX.here ⟨_, .cons (.tmp _ _ rfl) .nil, _, .cons .p1 (.cons .p1 .nil), ⟨b_0x4, rfl, rfl⟩⟩
            · refine have h := iteF hc h; tK <| tS <| tSR <| rM rfl rfl <| ARun.qv (q_sne rfl rfl) rfl <| rN <| ATodo.cut (fun σ' => ∃ (l13 : List (Str × Note)), command_Office_Put_j2 p0x0 p1x0 l13 = some r ∧ σ' = ⟨103, [(0, .ptr b_0 0), (3, .ptr b1 0), (6, .mref b5)], [(b_0, .cells [I p0x0.post_.Room, I p0x0.post_.Timeout, I p0x0.post_.Tries, I p0x0.post_.Kept, .mref b_0x4, I p0x0.time_]), (b_0x4, .mp (p0x0.notes_.map (fun e => (AV.str e.1, Note.av e.2)))), (b1, .cells [.str p1x0.Id, .str p1x0.Slot, .str p1x0.Body, I p1x0.Prio, I p1x0.At, I p1x0.Until]), (b5, .mp (l13.map (fun e => (AV.str e.1, Note.av e.2))))]⟩) ?_ ?_
              · refine ATodo.cond_d rfl (fun hc => ?_) (fun hc => ?_)
                · refine have h := iteT hc h; tSR <| rM rfl rfl <| rM rfl rfl <| bndE h fun v14 e7 h => ARun.qv (t_lookup (gk := AV.str) (gv := Note.av) (M := v4) (key := q10) (Z := (⟨(⟨[], [], [], (0 : Int), (0 : Int), (0 : Int)⟩ : Letter), (0 : Int), (0 : Int), (0 : Int)⟩ : Note)) rfl rfl .p0 rfl rfl rfl e7 rfl) rfl <| n_alloc rfl rfl rfl rfl fun b15 => n_store_ptr rfl rfl rfl rfl .p0 rfl rfl <| rN <| tS <| ATodo.regionT (id := 21) (A := [0, 1, 0, 4, 15, 31]) (H0 := [(b15, .cells [.str v14.Letter.Id, .str v14.Letter.Slot, .str v14.Letter.Body, I v14.Letter.Prio, I v14.Letter.At, I v14.Letter.Until, I v14.State, I v14.Tries, I v14.Since])]) (HH := fun β => [(b15, .cells [.str v14.Letter.Id, .str v14.Letter.Slot, .str v14.Letter.Body, I v14.Letter.Prio, I v14.Letter.At, I v14.Letter.Until, I (6 : Int), I v14.Tries, I v14.Since]), (b5, .mp (v4.map (fun e => (AV.str e.1, Note.av e.2)))), (b_0, .cells [I p0x0.post_.Room, I p0x0.post_.Timeout, I p0x0.post_.Tries, I p0x0.post_.Kept, .mref b_0x4, I p0x0.time_]), (b_0x4, .mp (p0x0.notes_.map (fun e => (AV.str e.1, Note.av e.2)))), (b1, .cells [.str p1x0.Id, .str p1x0.Slot, .str p1x0.Body, I p1x0.Prio, I p1x0.At, I p1x0.Until])]) 4 mixed rfl (by kernel_rfl) (by kernel_rfl) [⟨none, some 3, [], fun _ => (b15, .cells [.str v14.Letter.Id, .str v14.Letter.Slot, .str v14.Letter.Body, I v14.Letter.Prio, I v14.Letter.At, I v14.Letter.Until, I v14.State, I v14.Tries, I v14.Since]), none⟩, ⟨some 3, none, [], fun _ => (b15, .cells [.str v14.Letter.Id, .str v14.Letter.Slot, .str v14.Letter.Body, I v14.Letter.Prio, I v14.Letter.At, I v14.Letter.Until, I (6 : Int), I v14.Tries, I v14.Since]), none⟩] [] rfl (by kernel_rfl) rfl (.cons .p0 .nil) (fun _ => rfl) <| AT.am 3 rfl rfl <| AM.qv (n_field_ptr rfl rfl) rfl <| AM.qv (q_load_ptr rfl rfl .p3 rfl) rfl <| AM.qv (n_field_ptr rfl rfl) rfl <| AM.nil <| AT.run0 (Ti := [(b15, .cells [.str v14.Letter.Id, .str v14.Letter.Slot, .str v14.Letter.Body, I v14.Letter.Prio, I v14.Letter.At, I v14.Letter.Until, I v14.State, I v14.Tries, I v14.Since])]) (Pi := [(b15, .cells [.str v14.Letter.Id, .str v14.Letter.Slot, .str v14.Letter.Body, I v14.Letter.Prio, I v14.Letter.At, I v14.Letter.Until, I (6 : Int), I v14.Tries, I v14.Since])]) (fun _ => rfl) (fun _ => rfl) (fun _ => rfl) rfl rfl ?_ ?_
                  · exact n_store_ptr rfl rfl rfl rfl .p0 rfl rfl <| ARun.nil ⟨_, rfl⟩
                  exact AT.nilN (fun _ => rfl) fun β => rF rfl rfl rfl <| n_store_ptr rfl rfl rfl rfl .p0 rfl rfl <| rN <| tR <| rM rfl rfl <| rM rfl rfl <| ARun.qv (q_load_ptr_all rfl rfl .p0 rfl) rfl <| t_mapUpdate (gk := AV.str) (gv := Note.av) (M := v4) (key := q10) (v := (⟨v14.Letter, (6 : Int), v14.Tries, p1x0.At⟩ : Note)) rfl rfl rfl rfl .p1 <| rN <| ATodo.stop <| ImpX.lq [2, 2, 2, 1] ⟨mset v4 q10 (⟨v14.Letter, (6 : Int), v14.Tries, p1x0.At⟩ : Note), h, rfl⟩ rfl rfl
                · exact have h := iteF hc h; tK <| ATodo.stop <| ImpX.lq [1, 1, 1, 0] ⟨v4, h, rfl⟩ rfl rfl
              · rintro σ' ⟨l13, h, rfl⟩
                unfold command_Office_Put_j2 at h
                refine tSR <| rM rfl rfl <| rF rfl rfl rfl <| rL rfl rfl .p2 rfl rfl <| ARun.qv (q_load_ptr_all rfl rfl .p2 rfl) rfl <| rF rfl rfl rfl <| rL rfl rfl .p2 rfl rfl <| ARun.qv (n_build rfl rfl rfl rfl rfl) rfl <| t_mapUpdate (gk := AV.str) (gv := Note.av) (M := l13) (key := p1x0.Id) (v := (⟨p1x0, (1 : Int), (0 : Int), p1x0.At⟩ : Note)) rfl rfl rfl rfl .p3 <| rN <| tSR <| rM rfl rfl <| rM rfl rfl <| rF rfl rfl rfl <| rL rfl rfl .p2 rfl rfl <| t_call1 rfl (command_Office_keep_c (rfl : command_Office_keep p0x0 (mset l13 p1x0.Id (⟨p1x0, (1 : Int), (0 : Int), p1x0.At⟩ : Note)) p1x0.At = _)) (CoL.refl _) (.cons .p0 (.cons .p0 (.cons .p1 .nil))) (fun _ => rfl) rfl fun b16 => rN <| tSR <| rA rfl rfl <| rN <| ATodo.ret <| ?_
                obtain rfl := Option.some.inj h
                exact ImpX.here ⟨_, .cons (.tmp _ _ rfl) .nil, _, .cons .p0 (.cons .p0 .nil), ⟨b16, rfl, rfl⟩⟩
        · obtain ⟨z1, h, hN1, hA1⟩ := stepL hH1 hP
          replace h : command_Office_Put_b1 p1x0 v1m q10 = some z1 := h
          unfold command_Office_Put_b1 at h
          have hJ1 := fun y σ' (e : z1 = .inl y) hi => hK1 R' y σ' hlen (hN1 y e) hi
          clear hN1 hP hK1 hH1
          refine rX rfl rfl rfl <| rN <| tS <| ATodo.cond_t rfl <| tK <| ATodo.block <| tSR <| ARun.qv (t_entry rfl .p2 .p3 hCv1m rfl rfl) rfl <| rX rfl rfl rfl <| rX rfl rfl rfl <| n_alloc rfl rfl rfl rfl fun b17 => rA rfl rfl <| n_store_ptr rfl rfl rfl rfl .p0 rfl rfl <| rN <| tS <| ATodo.cut (fun σ' => ∃ (c18 : Bool), command_Office_Put_j3 q10 v1m c18 = some z1 ∧ σ' = ⟨103, [(0, .ptr b_0 0), (3, .ptr b1 0), (6, .mref b5), (9, .str q10), (10, .str v1m.1), (38, .ptr b8 0), (64, .bool c18)], [(b_0, .cells [I p0x0.post_.Room, I p0x0.post_.Timeout, I p0x0.post_.Tries, I p0x0.post_.Kept, .mref b_0x4, I p0x0.time_]), (b_0x4, .mp (p0x0.notes_.map (fun e => (AV.str e.1, Note.av e.2)))), (b1, .cells [.str p1x0.Id, .str p1x0.Slot, .str p1x0.Body, I p1x0.Prio, I p1x0.At, I p1x0.Until]), (b5, .mpb Le5 ce5), (b8, .mit b5 ce5 sv1m)]⟩) ?_ ?_
          · refine tR <| rF rfl rfl rfl <| rL rfl rfl .p5 rfl rfl <| ARun.qv (q_sne rfl rfl) rfl <| rM rfl rfl <| ARun.guard_dt rfl rfl rfl (fun hc => ?_) (fun hc => ?_)
            · rw [andTd hc] at h
              refine rF rfl rfl rfl <| rY rfl rfl rfl <| rF rfl rfl rfl <| rY rfl rfl rfl <| rL rfl rfl .p0 rfl rfl <| rY rfl rfl rfl <| rF rfl rfl rfl <| rY rfl rfl rfl <| rL rfl rfl .p5 rfl rfl <| rY rfl rfl rfl <| ARun.qv (q_seq rfl rfl) rfl <| rT rfl rfl rfl <| rM rfl rfl <| ARun.guard_dt rfl rfl rfl (fun hc => ?_) (fun hc => ?_)
              · rw [andTd hc] at h
                refine rF rfl rfl rfl <| rY rfl rfl rfl <| rL rfl rfl .p0 rfl rfl <| rY rfl rfl rfl <| ARun.qv (q_eql rfl rfl) rfl <| rT rfl rfl rfl <| rM rfl rfl <| ARun.guard_dt rfl rfl rfl (fun hc => ?_) (fun hc => ?_)
                · rw [andTd hc] at h
                  exact rF rfl rfl rfl <| rY rfl rfl rfl <| rL rfl rfl .p0 rfl rfl <| rY rfl rfl rfl <| ARun.qv (q_eql rfl rfl) rfl <| rT rfl rfl rfl <| rN <| ATodo.stop <| ImpX.lq [1, 1, 3, 2, 1] ⟨decide (v1m.2.Tries = (0 : Int)), h, rfl⟩ rfl rfl
                · rw [andFd hc] at h
                  exact rG rfl rfl rfl rfl <| rG rfl rfl rfl rfl <| rE rfl rfl rfl <| rN <| ATodo.stop <| ImpX.lq [1, 1, 3, 2, 1] ⟨false, h, rfl⟩ rfl rfl
              · rw [andFd hc] at h
                exact rG rfl rfl rfl rfl <| rG rfl rfl rfl rfl <| rE rfl rfl rfl <| rM rfl rfl <| rG rfl rfl rfl rfl <| rG rfl rfl rfl rfl <| rG rfl rfl rfl rfl <| rE rfl rfl rfl <| rN <| ATodo.stop <| ImpX.lq [1, 1, 3, 2, 1] ⟨false, h, rfl⟩ rfl rfl
            · rw [andFd hc] at h
              exact rG rfl rfl rfl rfl <| rG rfl rfl rfl rfl <| rG rfl rfl rfl rfl <| rG rfl rfl rfl rfl <| rG rfl rfl rfl rfl <| rE rfl rfl rfl <| rM rfl rfl <| rG rfl rfl rfl rfl <| rG rfl rfl rfl rfl <| rG rfl rfl rfl rfl <| rE rfl rfl rfl <| rM rfl rfl <| rG rfl rfl rfl rfl <| rG rfl rfl rfl rfl <| rG rfl rfl rfl rfl <| rE rfl rfl rfl <| rN <| ATodo.stop <| ImpX.lq [1, 1, 3, 2, 1] ⟨false, h, rfl⟩ rfl rfl
          · rintro σ' ⟨c18, h, rfl⟩
            unfold command_Office_Put_j3 at h
            refine ATodo.cut (fun σ' => ∃ (q19 : Str), command_Office_Put_j4 q19 = some z1 ∧ σ' = ⟨103, [(0, .ptr b_0 0), (3, .ptr b1 0), (6, .mref b5), (9, .str q19), (38, .ptr b8 0)], [(b_0, .cells [I p0x0.post_.Room, I p0x0.post_.Timeout, I p0x0.post_.Tries, I p0x0.post_.Kept, .mref b_0x4, I p0x0.time_]), (b_0x4, .mp (p0x0.notes_.map (fun e => (AV.str e.1, Note.av e.2)))), (b1, .cells [.str p1x0.Id, .str p1x0.Slot, .str p1x0.Body, I p1x0.Prio, I p1x0.At, I p1x0.Until]), (b5, .mpb Le5 ce5), (b8, .mit b5 ce5 sv1m)]⟩) ?_ ?_
            · refine ATodo.cond rfl (fun hc => ?_) (fun hc => ?_)
              · exact have h := iteT hc h; tR <| rM rfl rfl <| rA rfl rfl <| rN <| ATodo.stop <| ImpX.lq [0, 0, 0, 0, 0] ⟨v1m.1, h, rfl⟩ rfl rfl
              · exact have h := iteFb hc h; tK <| ATodo.stop <| ImpX.lq [0, 0, 0, 0, 0] ⟨q10, h, rfl⟩ rfl rfl
            · rintro σ' ⟨q19, h, rfl⟩
              unfold command_Office_Put_j4 at h
              refine ATodo.blk <| ATodo.stop <| ?_
              obtain rfl := Option.some.inj h
              exact hJ1 _ _ rfl <| ImpX.lq [0, 0, 2, 1, 0] ⟨sv1m, hIv1m, rfl⟩ rfl rfl

set_option maxHeartbeats 4000000 in
theorem command_Office_Waiting_c [GI : GTab] {b_0 : Bk} {b_0x4 : Bk} {p0x0 : Command_Office} {p1x0 : Int} {r : Int × Int × Command_Office} (h : command_Office_Waiting p0x0 p1x0 = some r) : ACall Tryd.prog 93 [.ptr b_0 0, I p1x0] [(b_0, .cells [I p0x0.post_.Room, I p0x0.post_.Timeout, I p0x0.post_.Tries, I p0x0.post_.Kept, .mref b_0x4, I p0x0.time_]), (b_0x4, .mp (p0x0.notes_.map (fun e => (AV.str e.1, Note.av e.2))))] (T1 (fun c_0x4 => [(b_0, .cells [I r.2.2.post_.Room, I r.2.2.post_.Timeout, I r.2.2.post_.Tries, I r.2.2.post_.Kept, .mref c_0x4, I r.2.2.time_]), (c_0x4, .mp (r.2.2.notes_.map (fun e => (AV.str e.1, Note.av e.2))))]) (fun c_0x4 => .tup [I r.1, I r.2.1])) := by
  unfold command_Office_Waiting at h
  refine ACall.lessH ?_
  refine ACall.bodyN Tryd.func93 rfl Tryd.ntmps93 Tryd.results93 rfl rfl ?_
  refine tSR <| rA rfl rfl <| rA rfl rfl <| rN <| tS <| tSR <| rM rfl rfl <| rM rfl rfl <| t_call0 rfl (command_Office_timeFault_c rfl) (CoL.refl _) (.cons .p0 .nil) rfl rfl <| rA rfl rfl <| rN <| tSR <| rM rfl rfl <| ARun.qv (q_neq rfl rfl) rfl <| rN <| ATodo.cond_d rfl (fun hc => ?_) (fun hc => ?_)
  · refine have h := iteT hc h; tSR <| rM rfl rfl <| rA rfl rfl <| rA rfl rfl <| rN <| ATodo.ret <| ?_
    obtain rfl := Option.some.inj h
    exact ImpX.here ⟨_, .cons (.tmp _ _ rfl) (.cons (.tmp _ _ rfl) .nil), _, .cons .p0 (.cons .p0 .nil), ⟨b_0x4, rfl, rfl⟩⟩
  · refine have h := iteF hc h; tK <| tSR <| rM rfl rfl <| rM rfl rfl <| rM rfl rfl <| bndE h fun v1 e1 h => t_call1 rfl (command_Office_aged_c e1) (CoL.refl _) (.cons .p0 (.cons .p0 .nil)) (fun _ => rfl) rfl fun b2 => rM rfl rfl <| t_call1 rfl (command_Office_keep_c rfl) (CoL.refl _) (.cons .p0 (.cons .p0 (.cons .p0 .nil))) (fun _ => rfl) rfl fun b3 => rN <| tSR <| rM rfl rfl <| ARun.qv (q_nilCheck_ptr rfl) rfl <| rF rfl rfl rfl <| rL rfl rfl .p0 rfl rfl <| bndE h fun v4 e2 h => t_call0 rfl (command_pending_c e2) (CoL.refl _) (.cons .p1 .nil) rfl rfl <| rA rfl rfl <| rA rfl rfl <| rN <| ATodo.ret <| ?_
    obtain rfl := Option.some.inj h
    exact ImpX.here ⟨_, .cons (.tmp _ _ rfl) (.cons (.tmp _ _ rfl) .nil), _, .cons .p1 (.cons .p0 .nil), ⟨b3, rfl, rfl⟩⟩

set_option maxHeartbeats 4000000 in
theorem L_posted_c {r : Bool} (h : L_posted = some r) : Pu Tryd.prog 33 [] (.bool r) := by
  unfold L_posted at h
  refine ACall.bodyN Tryd.func33 rfl Tryd.ntmps33 Tryd.results33 rfl rfl ?_
  refine tSR <| rA rfl rfl <| rN <| tSR <| ARun.qv (n_build rfl rfl rfl rfl rfl) rfl <| optE h (fun e1 h => ?_) (fun x1 e1 h => ?_)
  · refine have cM5 := TM_none e1 (command_New_c (rfl : command_New (⟨(1 : Int), (1 : Int), (1 : Int), (0 : Int)⟩ : Post) = _)); t_call0 rfl cM5 (CoL.refl _) .nil rfl rfl <| rM rfl rfl <| rX rfl rfl rfl <| rX rfl rfl rfl <| rA rfl rfl <| rA rfl rfl <| rN <| tS <| tS <| ATodo.cut (fun σ' => L_posted_j1 = some r ∧ σ' = ⟨32, [(1, .raw (.pointer none)), (20, .bool true)], []⟩) ?_ ?_
    · refine tR <| rM rfl rfl <| ARun.qv (q_neq rfl rfl) rfl <| rM rfl rfl <| ARun.guard_df rfl rfl rfl (fun hc => ?_) (fun hc => ?_)
      · exact have h := iteF hc h; rM rfl rfl <| rY rfl rfl rfl <| ARun.qv (q_ppneql rfl rfl) rfl <| rE rfl rfl rfl <| rM rfl rfl <| rG rfl rfl rfl rfl <| rG rfl rfl rfl rfl <| rG rfl rfl rfl rfl <| rG rfl rfl rfl rfl <| rT rfl rfl rfl <| rN <| ATodo.stop <| ImpX.lq [] ⟨h, rfl⟩ rfl rfl
      · exact have h := iteT hc h; rG rfl rfl rfl rfl <| rT rfl rfl rfl <| rM rfl rfl <| rG rfl rfl rfl rfl <| rG rfl rfl rfl rfl <| rG rfl rfl rfl rfl <| rG rfl rfl rfl rfl <| rT rfl rfl rfl <| rN <| ATodo.stop <| ImpX.lq [] ⟨h, rfl⟩ rfl rfl
    · rintro σ' ⟨h, rfl⟩
      unfold L_posted_j1 at h
      refine ATodo.cond_t rfl <| tSR <| rA rfl rfl <| rN <| ATodo.ret <| ?_
      obtain rfl := Option.some.inj h
      exact ImpX.here ⟨_, .cons (.tmp _ _ rfl) .nil, rfl⟩
  · refine have cM6 := TM_some e1 (command_New_c (rfl : command_New (⟨(1 : Int), (1 : Int), (1 : Int), (0 : Int)⟩ : Post) = _)); t_call2 rfl cM6 (CoL.refl _) .nil (fun _ _ => rfl) rfl fun b2 b3 => rM rfl rfl <| rX rfl rfl rfl <| rX rfl rfl rfl <| rA rfl rfl <| rA rfl rfl <| rN <| tS <| tS <| ATodo.cut (fun σ' => ∃ (b8 : Bk) (n4 : Int) (n5 : Int) (n6 : Int) (n7 : Int) (l9 : List (Str × Note)) (n10 : Int) (c11 : Bool), L_posted_j2 n4 n5 n6 n7 l9 n10 c11 = some r ∧ σ' = ⟨32, [(1, .ptr b2 0), (20, .bool c11)], [(b2, .cells [I n4, I n5, I n6, I n7, .mref b8, I n10]), (b8, .mp (l9.map (fun e => (AV.str e.1, Note.av e.2))))]⟩) ?_ ?_
    · refine tR <| rM rfl rfl <| ARun.qv (q_neq rfl rfl) rfl <| rM rfl rfl <| ARun.guard_df rfl rfl rfl (fun hc => ?_) (fun hc => ?_)
      · exact have h := iteF hc h; rM rfl rfl <| rY rfl rfl rfl <| ARun.qv (q_ppeql rfl rfl) rfl <| rE rfl rfl rfl <| rM rfl rfl <| rY rfl rfl rfl <| rM rfl rfl <| rY rfl rfl rfl <| ARun.qv (n_build rfl rfl rfl rfl rfl) rfl <| rY rfl rfl rfl <| bndE h fun v12 e2 h => t_call1 rfl (command_Office_Put_c e2) (CoL.refl _) (.cons .p0 (.cons .p0 .nil)) (fun _ => rfl) rfl fun b13 => rY rfl rfl rfl <| ARun.qv (q_neq rfl rfl) rfl <| rE rfl rfl rfl <| rN <| ATodo.stop <| ImpX.lq [0, 0] ⟨b13, v12.2.post_.Room, v12.2.post_.Timeout, v12.2.post_.Tries, v12.2.post_.Kept, v12.2.notes_, v12.2.time_, decide (v12.1 ≠ (0 : Int)), h, rfl⟩ rfl rfl
      · exact have h := iteT hc h; rG rfl rfl rfl rfl <| rT rfl rfl rfl <| rM rfl rfl <| rG rfl rfl rfl rfl <| rG rfl rfl rfl rfl <| rG rfl rfl rfl rfl <| rG rfl rfl rfl rfl <| rT rfl rfl rfl <| rN <| ATodo.stop <| ImpX.lq [0, 0] ⟨b3, x1.post_.Room, x1.post_.Timeout, x1.post_.Tries, x1.post_.Kept, x1.notes_, x1.time_, true, h, rfl⟩ rfl rfl
    · rintro σ' ⟨b8, n4, n5, n6, n7, l9, n10, c11, h, rfl⟩
      unfold L_posted_j2 at h
      refine ATodo.cond rfl (fun hc => ?_) (fun hc => ?_)
      · refine have h := iteT hc h; tSR <| rA rfl rfl <| rN <| ATodo.ret <| ?_
        obtain rfl := Option.some.inj h
        exact ImpX.here ⟨_, .cons (.tmp _ _ rfl) .nil, rfl⟩
      · refine have h := iteFb hc h; tK <| tSR <| rM rfl rfl <| bndE h fun v14 e3 h => t_call1 rfl (command_Office_Waiting_c e3) (CoL.refl _) (.cons .p0 (.cons .p0 .nil)) (fun _ => rfl) rfl fun b15 => rM rfl rfl <| rX rfl rfl rfl <| rX rfl rfl rfl <| rA rfl rfl <| rA rfl rfl <| rN <| tS <| ATodo.cut (fun σ' => ∃ (c16 : Bool), L_posted_j3 c16 = some r ∧ σ' = ⟨32, [(0, .bool c16)], []⟩) ?_ ?_
        · refine tR <| rM rfl rfl <| ARun.qv (q_eql rfl rfl) rfl <| rM rfl rfl <| ARun.guard_dt rfl rfl rfl (fun hc => ?_) (fun hc => ?_)
          · rw [andTd hc] at h
            exact rM rfl rfl <| rY rfl rfl rfl <| ARun.qv (q_eql rfl rfl) rfl <| rT rfl rfl rfl <| rA rfl rfl <| rN <| ATodo.stop <| ImpX.lq [] ⟨decide (v14.1 = (1 : Int)), h, rfl⟩ rfl rfl
          · rw [andFd hc] at h
            exact rG rfl rfl rfl rfl <| rE rfl rfl rfl <| rA rfl rfl <| rN <| ATodo.stop <| ImpX.lq [] ⟨false, h, rfl⟩ rfl rfl
        · rintro σ' ⟨c16, h, rfl⟩
          unfold L_posted_j3 at h
          refine ATodo.ret <| ?_
          obtain rfl := Option.some.inj h
          exact ImpX.here ⟨_, .cons (.tmp _ _ rfl) .nil, rfl⟩

set_option maxHeartbeats 4000000 in
theorem L_NotesMerge_c {p0x0 : List Int} {r : Bool} (h : L_NotesMerge p0x0 = some r) : Pu Tryd.prog 4 [.list 1 (p0x0.map I)] (.bool r) := by
  unfold L_NotesMerge at h
  refine ACall.bodyN Tryd.func4 rfl Tryd.ntmps4 Tryd.results4 rfl rfl ?_
  refine tSR <| rA rfl rfl <| rN <| tSR <| rM rfl rfl <| ARun.qv (n_build rfl rfl rfl rfl rfl) rfl <| n_box rfl rfl rfl rfl fun b1 => rA rfl rfl <| rN <| tSR <| rM rfl rfl <| bndE h fun v2 e1 h => t_call1 rfl (Stream_Notes_c e1) (CoL.refl _) (.cons .p0 .nil) (fun _ => rfl) rfl fun b3 => rM rfl rfl <| bndE h fun v4 e2 h => t_call1 rfl (Stream_Notes_c e2) (CoL.refl _) (.cons .p0 .nil) (fun _ => rfl) rfl fun b5 => rA rfl rfl <| rA rfl rfl <| rN <| tS <| tSR <| rM rfl rfl <| bndE h fun v6 e3 h => t_call0 rfl (Stream_Flip_c e3) (CoL.refl _) (.cons .p0 .nil) rfl rfl <| rN <| ATodo.cut (fun σ' => ∃ (b7 : Bk) (l8 : List Note), L_NotesMerge_j1 v2 l8 = some r ∧ σ' = ⟨84, [(4, .sl 9 b3 0 v2.1.length), (5, .sl 9 b7 0 l8.length)], [(b3, .arr 9 (v2.1.map Note.av)), (b7, .arr 9 (l8.map Note.av))]⟩) ?_ ?_
  · refine ATodo.cond rfl (fun hc => ?_) (fun hc => ?_)
    · refine have h := iteT hc h; tSR <| rM rfl rfl <| bndE h fun v9 e4 h => t_callL1 rfl (slices_Clone_Note_Note_c e4) .nil (.cons (CoB.arrT .p2) .nil) (fun _ => rfl) (fun _ => rfl) (fun _ => (.cons (NoS.arrT (fun _ => rfl)) .nil)) rfl fun b10 => rA rfl rfl <| rN <| tSR <| rM rfl rfl <| ARun.qv (t_len_sl rfl) rfl <| rM rfl rfl <| rN <| ATodo.block <| ATodo.loopI (fun x : (List Int) × Int × (List Note) × Int => L_NotesMerge_b1 v2 v9 x.1 x.2.1 x.2.2.1 x.2.2.2) (fun x σ' => σ' = ⟨84, [(3, .ptr b1 0), (4, .sl 9 b3 0 v2.1.length), (5, .sl 9 b10 0 x.2.2.1.length), (23, I (v9.length : Int)), (24, I x.2.2.2)], [(b1, .cells [.list 1 (x.1.map I), I x.2.1]), (b3, .arr 9 (v2.1.map Note.av)), (b10, .arr 9 (x.2.2.1.map Note.av))]⟩) h ?_ ?_
      · exact ImpX.lq [1, 2, 0] rfl rfl rfl
      · intro x z1 σ' J1 hmk h hJ1 hA1
        obtain ⟨l15, n16, l17, n18⟩ := x
        obtain rfl := hmk
        replace h : L_NotesMerge_b1 v2 v9 l15 n16 l17 n18 = some z1 := h
        unfold L_NotesMerge_b1 at h
        refine tSR <| ARun.qv (q_lss rfl rfl) rfl <| rN <| tS <| ATodo.cond_d rfl (fun hc => ?_) (fun hc => ?_)
        · refine have h := iteT hc h; tK <| tS <| ATodo.block <| tSR <| rM rfl rfl <| rA rfl rfl <| rN <| tR <| rM rfl rfl <| rM rfl rfl <| rM rfl rfl <| rM rfl rfl <| rM rfl rfl <| rM rfl rfl <| rM rfl rfl <| bndE h fun v19 e5 h => t_call0 rfl (Stream_Range_c e5) (CoL.refl _) (.cons .p0 .nil) rfl rfl <| rM rfl rfl <| n_buildSliceL (xs := ([(0 : Int), (1 : Int), (2 : Int)]).map I) rfl rfl rfl rfl rfl rfl <| bndE h fun v20 e6 h => t_call0 rfl (Stream_Pick_c e6) (CoL.refl _) (.cons .p0 .nil) rfl rfl <| rM rfl rfl <| n_buildSliceL (xs := ([(0 : Int), (5 : Int), (9 : Int)]).map I) rfl rfl rfl rfl rfl rfl <| bndE h fun v21 e7 h => t_call0 rfl (Stream_Pick_c e7) (CoL.refl _) (.cons .p0 .nil) rfl rfl <| bndE h fun v22 e8 h => ARun.qv (t_index_sl rfl rfl rfl e8) rfl <| ARun.qv (t_field_aptr rfl rfl) rfl <| t_store_aptr1 (g := Note.av) (el' := (⟨v22.Letter, v19.1, v22.Tries, v22.Since⟩ : Note)) rfl rfl rfl rfl e8 rfl .p2 rfl <| ARun.ghost <| ImpX.eqs (s := 5) (av' := .sl 9 b10 0 (l17.set n18.toNat (⟨v22.Letter, v19.1, v22.Tries, v22.Since⟩ : Note)).length) rfl (by rw [List.length_set]) <| ImpX.here <| ARun.ghost <| ImpX.eqs (s := 27) (av' := .sl 9 b10 0 (l17.set n18.toNat (⟨v22.Letter, v19.1, v22.Tries, v22.Since⟩ : Note)).length) rfl (by rw [List.length_set]) <| ImpX.here <| ARun.ghost <| ImpX.eqs (s := 29) (av' := .sl 9 b10 0 (l17.set n18.toNat (⟨v22.Letter, v19.1, v22.Tries, v22.Since⟩ : Note)).length) rfl (by rw [List.length_set]) <| ImpX.here <| ARun.ghost <| ImpX.eqs (s := 31) (av' := .sl 9 b10 0 (l17.set n18.toNat (⟨v22.Letter, v19.1, v22.Tries, v22.Since⟩ : Note)).length) rfl (by rw [List.length_set]) <| ImpX.here <| bndE h fun v23 e9 h => ARun.qv (t_index_sl rfl rfl rfl e9) rfl <| ARun.qv (t_field_aptr rfl rfl) rfl <| t_store_aptr1 (g := Note.av) (el' := (⟨v23.Letter, v23.State, v20.1, v23.Since⟩ : Note)) rfl rfl rfl rfl e9 rfl .p2 rfl <| ARun.ghost <| ImpX.eqs (s := 5) (av' := .sl 9 b10 0 ((l17.set n18.toNat (⟨v22.Letter, v19.1, v22.Tries, v22.Since⟩ : Note)).set n18.toNat (⟨v23.Letter, v23.State, v20.1, v23.Since⟩ : Note)).length) rfl (by rw [List.length_set]) <| ImpX.here <| ARun.ghost <| ImpX.eqs (s := 27) (av' := .sl 9 b10 0 ((l17.set n18.toNat (⟨v22.Letter, v19.1, v22.Tries, v22.Since⟩ : Note)).set n18.toNat (⟨v23.Letter, v23.State, v20.1, v23.Since⟩ : Note)).length) rfl (by rw [List.length_set]) <| ImpX.here <| ARun.ghost <| ImpX.eqs (s := 29) (av' := .sl 9 b10 0 ((l17.set n18.toNat (⟨v22.Letter, v19.1, v22.Tries, v22.Since⟩ : Note)).set n18.toNat (⟨v23.Letter, v23.State, v20.1, v23.Since⟩ : Note)).length) rfl (by rw [List.length_set]) <| ImpX.here <| ARun.ghost <| ImpX.eqs (s := 31) (av' := .sl 9 b10 0 ((l17.set n18.toNat (⟨v22.Letter, v19.1, v22.Tries, v22.Since⟩ : Note)).set n18.toNat (⟨v23.Letter, v23.State, v20.1, v23.Since⟩ : Note)).length) rfl (by rw [List.length_set]) <| ImpX.here <| bndE h fun v24 e10 h => ARun.qv (t_index_sl rfl rfl rfl e10) rfl <| ARun.qv (t_field_aptr rfl rfl) rfl <| t_store_aptr1 (g := Note.av) (el' := (⟨v24.Letter, v24.State, v24.Tries, v21.1⟩ : Note)) rfl rfl rfl rfl e10 rfl .p2 rfl <| ARun.ghost <| ImpX.eqs (s := 5) (av' := .sl 9 b10 0 (((l17.set n18.toNat (⟨v22.Letter, v19.1, v22.Tries, v22.Since⟩ : Note)).set n18.toNat (⟨v23.Letter, v23.State, v20.1, v23.Since⟩ : Note)).set n18.toNat (⟨v24.Letter, v24.State, v24.Tries, v21.1⟩ : Note)).length) rfl (by rw [List.length_set]) <| ImpX.here <| ARun.ghost <| ImpX.eqs (s := 27) (av' := .sl 9 b10 0 (((l17.set n18.toNat (⟨v22.Letter, v19.1, v22.Tries, v22.Since⟩ : Note)).set n18.toNat (⟨v23.Letter, v23.State, v20.1, v23.Since⟩ : Note)).set n18.toNat (⟨v24.Letter, v24.State, v24.Tries, v21.1⟩ : Note)).length) rfl (by rw [List.length_set]) <| ImpX.here <| ARun.ghost <| ImpX.eqs (s := 29) (av' := .sl 9 b10 0 (((l17.set n18.toNat (⟨v22.Letter, v19.1, v22.Tries, v22.Since⟩ : Note)).set n18.toNat (⟨v23.Letter, v23.State, v20.1, v23.Since⟩ : Note)).set n18.toNat (⟨v24.Letter, v24.State, v24.Tries, v21.1⟩ : Note)).length) rfl (by rw [List.length_set]) <| ImpX.here <| ARun.ghost <| ImpX.eqs (s := 31) (av' := .sl 9 b10 0 (((l17.set n18.toNat (⟨v22.Letter, v19.1, v22.Tries, v22.Since⟩ : Note)).set n18.toNat (⟨v23.Letter, v23.State, v20.1, v23.Since⟩ : Note)).set n18.toNat (⟨v24.Letter, v24.State, v24.Tries, v21.1⟩ : Note)).length) rfl (by rw [List.length_set]) <| ImpX.here <| rN <| ATodo.blk <| tR <| ARun.qv (q_addw rfl rfl) rfl <| rM rfl rfl <| rN <| ATodo.stop <| ?_
          obtain rfl := Option.some.inj h
          exact hJ1 _ _ rfl <| ImpX.lq [0, 0, 0] rfl rfl rfl
        · exact have h := iteF hc h; ATodo.exit rfl <| have h := outL h hA1; ATodo.stop <| ImpX.lq [1, 1] ⟨b10, l17, h, rfl⟩ rfl rfl
    · exact have h := iteFb hc h; tK <| ATodo.stop <| ImpX.lq [2, 1] ⟨b5, v4.1, h, rfl⟩ rfl rfl
  · rintro σ' ⟨b7, l8, h, rfl⟩
    unfold L_NotesMerge_j1 at h
    refine tSR <| rM rfl rfl <| rM rfl rfl <| bndE h fun v25 e11 h => t_callL1 rfl (command_Merge_c e11) .nil (.cons (CoB.arrT .p0) (.cons (CoB.arrT .p1) .nil)) (fun _ => rfl) (fun _ => rfl) (fun _ => (.cons (NoS.arrT (fun _ => rfl)) .nil)) rfl fun b26 => rM rfl rfl <| rX rfl rfl rfl <| rX rfl rfl rfl <| rA rfl rfl <| rA rfl rfl <| rN <| tSR <| rM rfl rfl <| bndE h fun v27 e12 h => r_callpB rfl (Q_NotesFault_c e12) (.cons (CoB.arrT .p1) .nil) rfl rfl <| rA rfl rfl <| rN <| tS <| tSR <| rM rfl rfl <| bndE h fun v28 e13 h => r_callpB rfl (command_CheckNotes_c e13) (.cons (CoB.arrT .p1) .nil) rfl rfl <| rM rfl rfl <| ARun.qv (q_neq rfl rfl) rfl <| rN <| ATodo.cond_d rfl (fun hc => ?_) (fun hc => ?_)
    · refine have h := iteT hc h; tSR <| rA rfl rfl <| rN <| ATodo.ret <| ?_
      obtain rfl := Option.some.inj h
      exact ImpX.here ⟨_, .cons (.tmp _ _ rfl) .nil, rfl⟩
    · refine have h := iteF hc h; tK <| tSR <| rA rfl rfl <| rN <| tS <| tSR <| rM rfl rfl <| rM rfl rfl <| bndE h fun v29 e14 h => r_callpB rfl (Q_NotesFault_c e14) (.cons (CoB.arrT .p2) .nil) rfl rfl <| n_buildSliceL (xs := ([v27, v29] : List Int).map I) rfl rfl rfl rfl rfl rfl <| bndE h fun v30 e15 h => r_callp rfl (L_errs_c e15) (CoL.refl _) rfl <| rA rfl rfl <| rN <| tSR <| rM rfl rfl <| ARun.qv (q_eql rfl rfl) rfl <| rN <| ATodo.cut (fun σ' => ∃ (b32 : Bk) (n31 : Int) (l33 : List Note), L_NotesMerge_j2 v25 n31 l33 = some r ∧ σ' = ⟨84, [(7, .sl 9 b26 0 v25.1.length), (8, I v25.2), (9, I n31), (10, .sl 9 b32 0 l33.length)], [(b26, .arr 9 (v25.1.map Note.av)), (b32, .arr 9 (l33.map Note.av))]⟩) ?_ ?_
      · refine ATodo.cond_d rfl (fun hc => ?_) (fun hc => ?_)
        · exact have h := iteT hc h; tR <| rM rfl rfl <| rM rfl rfl <| bndE h fun v34 e16 h => t_callL1 rfl (Q_NotesOf_c e16) .nil (.cons (CoB.arrT .p1) (.cons (CoB.arrT .p2) .nil)) (fun _ => rfl) (fun _ => rfl) (fun _ => (.cons (NoS.arrT (fun _ => rfl)) .nil)) rfl fun b35 => rM rfl rfl <| rX rfl rfl rfl <| rX rfl rfl rfl <| rA rfl rfl <| rA rfl rfl <| rN <| ATodo.stop <| ImpX.lq [1, 0] ⟨b35, v34.2, v34.1, h, rfl⟩ rfl rfl
        · exact have h := iteF hc h; tK <| ATodo.stop <| ImpX.arr (s := 10) 9 rfl fun b36 => ImpX.lq [1, 0] ⟨b36, v30, [], h, rfl⟩ rfl rfl
      · rintro σ' ⟨b32, n31, l33, h, rfl⟩
        unfold L_NotesMerge_j2 at h
        refine tS <| ATodo.cut (fun σ' => ∃ (c37 : Bool), L_NotesMerge_j3 c37 = some r ∧ σ' = ⟨84, [(2, .bool c37)], []⟩) ?_ ?_
        · refine tR <| rM rfl rfl <| rM rfl rfl <| ARun.qv (q_eql rfl rfl) rfl <| rM rfl rfl <| ARun.guard_dt rfl rfl rfl (fun hc => ?_) (fun hc => ?_)
          · refine have h := iteT hc h; rM rfl rfl <| rY rfl rfl rfl <| rM rfl rfl <| rY rfl rfl rfl <| bndE h fun v38 e17 h => r_callpB rfl (slices_Equal_Note_Note_c e17) (.cons (CoB.arrT .p0) (.cons (CoB.arrT .p1) .nil)) rfl rfl <| rT rfl rfl rfl <| rM rfl rfl <| ARun.guard rfl rfl rfl (fun hc => ?_) (fun hc => ?_)
            · exact have h := iteT hc h; bndE h fun v39 e18 h => r_callp rfl (L_posted_c e18) (CoL.refl _) rfl <| rT rfl rfl rfl <| rA rfl rfl <| rN <| ATodo.stop <| ImpX.lq [] ⟨v39, h, rfl⟩ rfl rfl
            · exact have h := iteFb hc h; rE rfl rfl rfl <| rA rfl rfl <| rN <| ATodo.stop <| ImpX.lq [] ⟨false, h, rfl⟩ rfl rfl
          · exact have h := iteF hc h; rG rfl rfl rfl rfl <| rG rfl rfl rfl rfl <| rE rfl rfl rfl <| rM rfl rfl <| rG rfl rfl rfl rfl <| rE rfl rfl rfl <| rA rfl rfl <| rN <| ATodo.stop <| ImpX.lq [] ⟨false, h, rfl⟩ rfl rfl
        · rintro σ' ⟨c37, h, rfl⟩
          unfold L_NotesMerge_j3 at h
          refine ATodo.ret <| ?_
          obtain rfl := Option.some.inj h
          exact ImpX.here ⟨_, .cons (.tmp _ _ rfl) .nil, rfl⟩

end Go.Proofs.YtfplpihogacmaaaDoor
