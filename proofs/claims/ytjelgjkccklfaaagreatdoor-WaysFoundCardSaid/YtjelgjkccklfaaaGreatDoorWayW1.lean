/- The code computes the plain functions: proofs written by shal.py. -/
import Derived.Test.YtjelgjkccklfaaaGreatDoorWayP
import Derived.Test.YtjelgjkccklfaaaGreatDoorLib
set_option maxRecDepth 100000
set_option linter.unusedVariables false
set_option linter.unusedSimpArgs false
namespace Go.Proofs.YtjelgjkccklfaaaGreatDoor
open Go Go.Eng Go.Proofs Go.Beacon
attribute [local irreducible] ARun ATodo AQ QV ACall ImpX AWp AM
instance eqg27 : EqGd Tryz.prog 27 := ⟨by kernel_rfl⟩
instance eqt27 : EqTy Tryz.prog 27 2 Version.av := ⟨fun x y w S v u hv hu => by
  obtain ⟨vs, rfl, hl, ha⟩ := At.agg_inv hv
  obtain ⟨us, rfl, hl', ha'⟩ := At.agg_inv hu
  obtain ⟨v0, p0, q0⟩ := AtA.get hl ha (off := 0) rfl
  obtain ⟨u0, p0', q0'⟩ := AtA.get hl' ha' (off := 0) rfl
  obtain ⟨v1, p1, q1⟩ := AtA.get hl ha (off := 1) rfl
  obtain ⟨u1, p1', q1'⟩ := AtA.get hl' ha' (off := 1) rfl
  obtain ⟨v2, p2, q2⟩ := AtA.get hl ha (off := 2) rfl
  obtain ⟨u2, p2', q2'⟩ := AtA.get hl' ha' (off := 2) rfl
  refine EqR.cast (EqR.struct Tryz.underlying27 (by kernel_rfl) (.cons (by decide) (part_one rfl p0) (part_one rfl p0') (EqR.up (EqTy.h (g := I) x.Major y.Major w S _ _ q0 q0') 0)  (.cons (by decide) (part_one rfl p1) (part_one rfl p1') (EqR.up (EqTy.h (g := I) x.Minor y.Minor w S _ _ q1 q1') 0)  (.cons (by decide) (part_one rfl p2) (part_one rfl p2') (EqR.up (EqTy.h (g := I) x.Patch y.Patch w S _ _ q2 q2') 0) .nil)))) ?_
  obtain ⟨_, _, _⟩ := x
  obtain ⟨_, _, _⟩ := y
  rw [Bool.eq_iff_iff]; simp [and_assoc]⟩
instance mky27 : MKey Tryz.prog 27 Version.av := MKey.struct (n := 3) rfl Tryz.underlying27 (fun f hf => by
  simp only [List.mem_cons, List.not_mem_nil, or_false] at hf
  rcases hf with rfl | rfl | rfl
  · exact ⟨_, TUnder.h (P := Tryz.prog) (t := 3), rfl, by decide⟩
  · exact ⟨_, TUnder.h (P := Tryz.prog) (t := 3), rfl, by decide⟩
  · exact ⟨_, TUnder.h (P := Tryz.prog) (t := 3), rfl, by decide⟩) (fun x => ⟨_, rfl, rfl, fun c hc => by
  simp only [List.mem_cons, List.not_mem_nil, or_false] at hc
  rcases hc with rfl | rfl | rfl <;> rfl⟩) (fun a b h => by
  obtain ⟨_, _, _⟩ := a
  obtain ⟨_, _, _⟩ := b
  simpa [Version.av] using h)
instance eqg111 : EqGd Tryz.prog 111 := ⟨by kernel_rfl⟩
instance eqt111 : EqTy Tryz.prog 111 3 Range.av := ⟨fun x y w S v u hv hu => by
  obtain ⟨vs, rfl, hl, ha⟩ := At.agg_inv hv
  obtain ⟨us, rfl, hl', ha'⟩ := At.agg_inv hu

  refine EqR.cast (EqR.struct Tryz.underlying111 (by kernel_rfl) (.cons (by decide) (part_agg rfl rfl) (part_agg rfl rfl) (EqR.up (EqTy.h (g := Version.av) x.Low y.Low w S _ _ (AtA.sub hl ha 0 3 (Nat.le_of_ble_eq_true rfl)) (AtA.sub hl' ha' 0 3 (Nat.le_of_ble_eq_true rfl))) 0)  (.cons (by decide) (part_agg rfl rfl) (part_agg rfl rfl) (EqR.up (EqTy.h (g := Version.av) x.High y.High w S _ _ (AtA.sub hl ha 3 3 (Nat.le_of_ble_eq_true rfl)) (AtA.sub hl' ha' 3 3 (Nat.le_of_ble_eq_true rfl))) 0) .nil))) ?_
  obtain ⟨_, _⟩ := x
  obtain ⟨_, _⟩ := y
  rw [Bool.eq_iff_iff]; simp [and_assoc]⟩
set_option maxHeartbeats 4000000 in
theorem Below_c [GI : GTab] {p0x0 : Int} {p1x0 : Int} {r : Int} (h : Below p0x0 p1x0 = some r) : Pu Tryz.prog 122 [I p0x0, I p1x0] (I r) := by
  unfold Below at h
  refine ACall.bodyN Tryz.func122 rfl Tryz.ntmps122 Tryz.results122 rfl rfl ?_
  refine tSR <| rA rfl rfl <| rN <| tS <| tSR <| rM rfl rfl <| ARun.qv (q_lss rfl rfl) rfl <| rN <| ATodo.cond_d rfl (fun hc => ?_) (fun hc => ?_)
  · refine have h := iteT hc h; tSR <| rA rfl rfl <| rN <| ATodo.ret <| ?_
    obtain rfl := Option.some.inj h
    exact ImpX.here ⟨_, .cons (.tmp _ _ rfl) .nil, rfl⟩
  · refine have h := iteF hc h; tK <| tSR <| rM rfl rfl <| rM rfl rfl <| bndE h fun n1 e1 h => ARun.qv (t_remS rfl rfl e1) rfl <| rA rfl rfl <| rN <| tS <| tSR <| rM rfl rfl <| ARun.qv (q_lss rfl rfl) rfl <| rN <| ATodo.cut (fun σ' => ∃ (n2 : Int), Below_j1 n2 = some r ∧ σ' = ⟨16, [(0, I n2)], []⟩) ?_ ?_
    · refine ATodo.cond_d rfl (fun hc => ?_) (fun hc => ?_)
      · exact have h := iteT hc h; tR <| rM rfl rfl <| rM rfl rfl <| ARun.qv (q_addw rfl rfl) rfl <| rA rfl rfl <| rN <| ATodo.stop <| ImpX.lq [] ⟨w64 (n1 + p1x0), h, rfl⟩ rfl rfl
      · exact have h := iteF hc h; tK <| ATodo.stop <| ImpX.lq [] ⟨n1, h, rfl⟩ rfl rfl
    · rintro σ' ⟨n2, h, rfl⟩
      unfold Below_j1 at h
      refine tSR <| rM rfl rfl <| rA rfl rfl <| rN <| ATodo.ret <| ?_
      obtain rfl := Option.some.inj h
      exact ImpX.here ⟨_, .cons (.tmp _ _ rfl) .nil, rfl⟩

set_option maxHeartbeats 4000000 in
theorem Stream_Next_c [GI : GTab] {b_0 : Bk} {p0x0 : Fleetmake_Stream} {p1x0 : Int} {r : Int × Fleetmake_Stream} (h : Stream_Next p0x0 p1x0 = some r) : ACall Tryz.prog 57 [.ptr b_0 0, I p1x0] [(b_0, .cells [.list 1 (p0x0.L.map I), I p0x0.at_])] (T0 ([(b_0, .cells [.list 1 (r.2.L.map I), I r.2.at_])]) (I r.1)) := by
  unfold Stream_Next at h
  refine ACall.lessH ?_
  refine ACall.bodyN Tryz.func57 rfl Tryz.ntmps57 Tryz.results57 rfl rfl ?_
  refine tSR <| rA rfl rfl <| rN <| tSR <| rM rfl rfl <| ARun.qv (q_nilCheck_ptr rfl) rfl <| rF rfl rfl rfl <| rL rfl rfl .p0 rfl rfl <| ARun.qv (q_addw rfl rfl) rfl <| ARun.qv (q_nilCheck_ptr rfl) rfl <| rF rfl rfl rfl <| n_store_ptr rfl rfl rfl rfl .p0 rfl rfl <| rN <| tS <| tSR <| rM rfl rfl <| ARun.qv (q_nilCheck_ptr rfl) rfl <| rF rfl rfl rfl <| rL rfl rfl .p0 rfl rfl <| ARun.qv (t_len rfl) rfl <| ARun.qv (q_eql rfl rfl) rfl <| rN <| ATodo.cond_d rfl (fun hc => ?_) (fun hc => ?_)
  · refine have h := iteT hc h; tSR <| rM rfl rfl <| ARun.qv (q_nilCheck_ptr rfl) rfl <| rF rfl rfl rfl <| rL rfl rfl .p0 rfl rfl <| ARun.qv (q_mulw rfl rfl) rfl <| rM rfl rfl <| bndE h fun v1 e1 h => r_callp rfl (Below_c e1) (CoL.refl _) rfl <| rA rfl rfl <| rN <| ATodo.ret <| ?_
    obtain rfl := Option.some.inj h
    exact ImpX.here ⟨_, .cons (.tmp _ _ rfl) .nil, _, .cons .p0 .nil, ⟨rfl, rfl⟩⟩
  · refine have h := iteF hc h; tK <| tS <| ATodo.regionM (id := 4) (A := [0, 1, 3, 7, 15, 0, 32, 96, 224, 480, 1023, 2047]) 12 mixed rfl (by kernel_rfl) (by kernel_rfl) <| AM.qv (q_move rfl) rfl <| AM.qv (q_nilCheck_ptr rfl) rfl <| AM.qv (n_field_ptr rfl rfl) rfl <| AM.qv (q_load_ptr rfl rfl .p0 rfl) rfl <| AM.qv (q_subw rfl rfl) rfl <| AM.qv (q_move rfl) rfl <| AM.qv (q_nilCheck_ptr rfl) rfl <| AM.qv (n_field_ptr rfl rfl) rfl <| AM.qv (q_load_ptr rfl rfl .p0 rfl) rfl <| AM.qv (t_len rfl) rfl <| bndE h fun n2 e2 h => AM.qv (t_remS rfl rfl e2) rfl <| AM.qv (q_assign rfl) rfl <| AM.nil <| rN <| tS <| ATodo.regionM (id := 5) (A := [0, 1, 3, 7, 15, 0, 32, 96, 224, 480, 1023, 2047]) 12 mixed rfl (by kernel_rfl) (by kernel_rfl) <| AM.qv (q_move rfl) rfl <| AM.qv (q_nilCheck_ptr rfl) rfl <| AM.qv (n_field_ptr rfl rfl) rfl <| AM.qv (q_load_ptr rfl rfl .p0 rfl) rfl <| AM.qv (q_subw rfl rfl) rfl <| AM.qv (q_move rfl) rfl <| AM.qv (q_nilCheck_ptr rfl) rfl <| AM.qv (n_field_ptr rfl rfl) rfl <| AM.qv (q_load_ptr rfl rfl .p0 rfl) rfl <| AM.qv (t_len rfl) rfl <| bndE h fun n3 e3 h => AM.qv (t_quoS rfl rfl e3) rfl <| AM.qv (q_assign rfl) rfl <| AM.nil <| rN <| tSR <| rM rfl rfl <| ARun.qv (q_nilCheck_ptr rfl) rfl <| rF rfl rfl rfl <| rL rfl rfl .p0 rfl rfl <| rM rfl rfl <| bndE h fun v4 e4 h => ARun.qv (t_index rfl rfl rfl e4 rfl rfl) rfl <| ARun.qv (q_load_rptr rfl rfl rfl) rfl <| bndE h fun v5 e5 h => r_callp rfl (Below_c e5) (CoL.refl _) rfl <| rM rfl rfl <| rM rfl rfl <| ARun.qv (q_addw rfl rfl) rfl <| ARun.qv (q_mulw rfl rfl) rfl <| ARun.qv (q_addw rfl rfl) rfl <| rM rfl rfl <| bndE h fun v6 e6 h => r_callp rfl (Below_c e6) (CoL.refl _) rfl <| rA rfl rfl <| rN <| ATodo.ret <| ?_
    obtain rfl := Option.some.inj h
    exact ImpX.here ⟨_, .cons (.tmp _ _ rfl) .nil, _, .cons .p0 .nil, ⟨rfl, rfl⟩⟩

set_option maxHeartbeats 4000000 in
theorem Stream_Flip_c [GI : GTab] {b_0 : Bk} {p0x0 : Fleetmake_Stream} {p1x0 : Int} {r : Bool × Fleetmake_Stream} (h : Stream_Flip p0x0 p1x0 = some r) : ACall Tryz.prog 44 [.ptr b_0 0, I p1x0] [(b_0, .cells [.list 1 (p0x0.L.map I), I p0x0.at_])] (T0 ([(b_0, .cells [.list 1 (r.2.L.map I), I r.2.at_])]) (.bool r.1)) := by
  unfold Stream_Flip at h
  refine ACall.lessH ?_
  refine ACall.bodyN Tryz.func44 rfl Tryz.ntmps44 Tryz.results44 rfl rfl ?_
  refine tSR <| rA rfl rfl <| rN <| tSR <| rM rfl rfl <| rM rfl rfl <| bndE h fun v1 e1 h => t_call0 rfl (Stream_Next_c e1) (CoL.refl _) (.cons .p0 .nil) rfl rfl <| ARun.qv (q_eql rfl rfl) rfl <| rA rfl rfl <| rN <| ATodo.ret <| ?_
  obtain rfl := Option.some.inj h
  exact ImpX.here ⟨_, .cons (.tmp _ _ rfl) .nil, _, .cons .p0 .nil, ⟨rfl, rfl⟩⟩

set_option maxHeartbeats 4000000 in
theorem Stream_Pick_c [GI : GTab] {b_0 : Bk} {p0x0 : Fleetmake_Stream} {p1x0 : List Int} {r : Int × Fleetmake_Stream} (h : Stream_Pick p0x0 p1x0 = some r) : ACall Tryz.prog 8 [.ptr b_0 0, .list 1 (p1x0.map I)] [(b_0, .cells [.list 1 (p0x0.L.map I), I p0x0.at_])] (T0 ([(b_0, .cells [.list 1 (r.2.L.map I), I r.2.at_])]) (I r.1)) := by
  unfold Stream_Pick at h
  refine ACall.lessH ?_
  refine ACall.bodyN Tryz.func8 rfl Tryz.ntmps8 Tryz.results8 rfl rfl ?_
  refine tSR <| rA rfl rfl <| rN <| tSR <| rM rfl rfl <| rM rfl rfl <| rM rfl rfl <| ARun.qv (t_len rfl) rfl <| bndE h fun v1 e1 h => t_call0 rfl (Stream_Next_c e1) (CoL.refl _) (.cons .p0 .nil) rfl rfl <| bndE h fun v2 e2 h => ARun.qv (t_index rfl rfl rfl e2 rfl rfl) rfl <| ARun.qv (q_load_rptr rfl rfl rfl) rfl <| rA rfl rfl <| rN <| ATodo.ret <| ?_
  obtain rfl := Option.some.inj h
  exact ImpX.here ⟨_, .cons (.tmp _ _ rfl) .nil, _, .cons .p0 .nil, ⟨rfl, rfl⟩⟩

set_option maxHeartbeats 4000000 in
theorem Stream_Range_c [GI : GTab] {b_0 : Bk} {p0x0 : Fleetmake_Stream} {p1x0 : Int} {p2x0 : Int} {r : Int × Fleetmake_Stream} (h : Stream_Range p0x0 p1x0 p2x0 = some r) : ACall Tryz.prog 10 [.ptr b_0 0, I p1x0, I p2x0] [(b_0, .cells [.list 1 (p0x0.L.map I), I p0x0.at_])] (T0 ([(b_0, .cells [.list 1 (r.2.L.map I), I r.2.at_])]) (I r.1)) := by
  unfold Stream_Range at h
  refine ACall.lessH ?_
  refine ACall.bodyN Tryz.func10 rfl Tryz.ntmps10 Tryz.results10 rfl rfl ?_
  refine tSR <| rA rfl rfl <| rN <| tS <| tSR <| rM rfl rfl <| rM rfl rfl <| ARun.qv (q_lss rfl rfl) rfl <| rN <| ATodo.cond_d rfl (fun hc => ?_) (fun hc => ?_)
  · refine have h := iteT hc h; tSR <| rM rfl rfl <| rA rfl rfl <| rN <| ATodo.ret <| ?_
    obtain rfl := Option.some.inj h
    exact ImpX.here ⟨_, .cons (.tmp _ _ rfl) .nil, _, .cons .p0 .nil, ⟨rfl, rfl⟩⟩
  · refine have h := iteF hc h; tK <| tSR <| rM rfl rfl <| rM rfl rfl <| rM rfl rfl <| rM rfl rfl <| ARun.qv (q_subw rfl rfl) rfl <| ARun.qv (q_addw rfl rfl) rfl <| bndE h fun v1 e1 h => t_call0 rfl (Stream_Next_c e1) (CoL.refl _) (.cons .p0 .nil) rfl rfl <| ARun.qv (q_addw rfl rfl) rfl <| rA rfl rfl <| rN <| ATodo.ret <| ?_
    obtain rfl := Option.some.inj h
    exact ImpX.here ⟨_, .cons (.tmp _ _ rfl) .nil, _, .cons .p0 .nil, ⟨rfl, rfl⟩⟩

set_option maxHeartbeats 4000000 in
theorem whole_c [GI : GTab] {p0x0 : Int} {r : Version} (h : whole p0x0 = r) : Pu Tryz.prog 60 [I p0x0] (.agg [I r.Major, I r.Minor, I r.Patch]) := by
  unfold whole at h
  refine ACall.bodyN Tryz.func60 rfl Tryz.ntmps60 Tryz.results60 rfl rfl ?_
  refine tSR <| n_alloc rfl rfl rfl rfl fun b1 => rN <| tSR <| rM rfl rfl <| ARun.qv (n_build rfl rfl rfl rfl rfl) rfl <| n_store_ptr rfl rfl rfl rfl .p0 rfl rfl <| rN <| ATodo.ret <| ?_
  obtain rfl := h
  exact ImpX.here ⟨_, .cons (.all _ _ _ _ _ _ rfl .p0 TUnder.h TInfo.h rfl rfl) .nil, rfl⟩

set_option maxHeartbeats 4000000 in
theorem cmp_isNaN_int_c [GI : GTab] {p0x0 : Int} {r : Bool} (h : cmp_isNaN_int p0x0 = r) : Pu Tryz.prog 204 [I p0x0] (.bool r) := by
  unfold cmp_isNaN_int at h
  refine ACall.bodyN Tryz.func204 rfl Tryz.ntmps204 Tryz.results204 rfl rfl ?_
  refine tSR <| rA rfl rfl <| rN <| tSR <| rM rfl rfl <| rM rfl rfl <| ARun.qv (q_neq rfl rfl) rfl <| rA rfl rfl <| rN <| ATodo.ret <| ?_
  obtain rfl := h
  exact ImpX.here ⟨_, .cons (.tmp _ _ rfl) .nil, rfl⟩

set_option maxHeartbeats 4000000 in
theorem cmp_Compare_int_c [GI : GTab] {p0x0 : Int} {p1x0 : Int} {r : Int} (h : cmp_Compare_int p0x0 p1x0 = r) : Pu Tryz.prog 153 [I p0x0, I p1x0] (I r) := by
  unfold cmp_Compare_int at h
  refine ACall.bodyN Tryz.func153 rfl Tryz.ntmps153 Tryz.results153 rfl rfl ?_
  refine tSR <| rA rfl rfl <| rN <| tSR <| rM rfl rfl <| r_callp rfl (cmp_isNaN_int_c rfl) (CoL.refl _) rfl <| rA rfl rfl <| rN <| tSR <| rM rfl rfl <| r_callp rfl (cmp_isNaN_int_c rfl) (CoL.refl _) rfl <| rA rfl rfl <| rN <| tS <| tSR <| rM rfl rfl <| rN <| ATodo.cond rfl (fun hc => ?_) (fun hc => ?_)
  · refine have h := iteT hc h; tS <| tSR <| rM rfl rfl <| rN <| ATodo.cond rfl (fun hc => ?_) (fun hc => ?_)
    · refine have h := iteT hc h; tSR <| rA rfl rfl <| rN <| ATodo.ret <| ?_
      obtain rfl := h
      exact ImpX.here ⟨_, .cons (.tmp _ _ rfl) .nil, rfl⟩
    · refine have h := iteFb hc h; tK <| tSR <| rA rfl rfl <| rN <| ATodo.ret <| ?_
      obtain rfl := h
      exact ImpX.here ⟨_, .cons (.tmp _ _ rfl) .nil, rfl⟩
  · refine have h := iteFb hc h; tK <| tS <| tSR <| rM rfl rfl <| rN <| ATodo.cond rfl (fun hc => ?_) (fun hc => ?_)
    · refine have h := iteT hc h; tSR <| rA rfl rfl <| rN <| ATodo.ret <| ?_
      obtain rfl := h
      exact ImpX.here ⟨_, .cons (.tmp _ _ rfl) .nil, rfl⟩
    · refine have h := iteFb hc h; tK <| tS <| tSR <| rM rfl rfl <| rM rfl rfl <| ARun.qv (q_lss rfl rfl) rfl <| rN <| ATodo.cond_d rfl (fun hc => ?_) (fun hc => ?_)
      · refine have h := iteT hc h; tSR <| rA rfl rfl <| rN <| ATodo.ret <| ?_
        obtain rfl := h
        exact ImpX.here ⟨_, .cons (.tmp _ _ rfl) .nil, rfl⟩
      · refine have h := iteF hc h; tK <| tS <| tSR <| rM rfl rfl <| rM rfl rfl <| ARun.qv (q_gtr rfl rfl) rfl <| rN <| ATodo.cond_d rfl (fun hc => ?_) (fun hc => ?_)
        · refine have h := iteT hc h; tSR <| rA rfl rfl <| rN <| ATodo.ret <| ?_
          obtain rfl := h
          exact ImpX.here ⟨_, .cons (.tmp _ _ rfl) .nil, rfl⟩
        · refine have h := iteF hc h; tK <| tSR <| rA rfl rfl <| rN <| ATodo.ret <| ?_
          obtain rfl := h
          exact ImpX.here ⟨_, .cons (.tmp _ _ rfl) .nil, rfl⟩

set_option maxHeartbeats 4000000 in
theorem slices_Compare_int_int_c [GI : GTab] {p0x0 : List Int} {p1x0 : List Int} {r : Int} (h : slices_Compare_int_int p0x0 p1x0 = some r) : Pu Tryz.prog 166 [.list 1 (p0x0.map I), .list 1 (p1x0.map I)] (I r) := by
  unfold slices_Compare_int_int at h
  refine ACall.bodyN Tryz.func166 rfl Tryz.ntmps166 Tryz.results166 rfl rfl ?_
  refine tSR <| rA rfl rfl <| rN <| tS <| tSR <| rM rfl rfl <| ARun.qv (t_len rfl) rfl <| rM rfl rfl <| rN <| ATodo.block <| ATodo.loopI (fun x : Int => slices_Compare_int_int_b1 p0x0 p1x0 x) (fun x σ' => σ' = ⟨36, [(0, .list 1 (p0x0.map I)), (1, .list 1 (p1x0.map I)), (9, .list 1 (p0x0.map I)), (10, I (p0x0.length : Int)), (11, I x)], []⟩) h ?_ ?_
  · exact ImpX.lq [] rfl rfl rfl
  · intro n2 z1 σ' J1 hmk h hJ1 hA1
    obtain rfl := hmk
    replace h : slices_Compare_int_int_b1 p0x0 p1x0 n2 = some z1 := h
    unfold slices_Compare_int_int_b1 at h
    refine tSR <| ARun.qv (q_lss rfl rfl) rfl <| rN <| tS <| ATodo.cond_d rfl (fun hc => ?_) (fun hc => ?_)
    · refine have h := iteT hc h; tK <| tS <| ATodo.block <| tSR <| rM rfl rfl <| bndE h fun v3 e1 h => ARun.qv (t_index rfl rfl rfl e1 rfl rfl) rfl <| ARun.qv (q_load_rptr rfl rfl rfl) rfl <| rA rfl rfl <| rA rfl rfl <| rN <| tS <| tSR <| rM rfl rfl <| rM rfl rfl <| ARun.qv (t_len rfl) rfl <| ARun.qv (q_geq rfl rfl) rfl <| rN <| ATodo.cond_d rfl (fun hc => ?_) (fun hc => ?_)
      · refine have h := iteT hc h; tSR <| rA rfl rfl <| rN <| ATodo.ret <| have h := outL h hA1; ?_
        obtain rfl := Option.some.inj h
        exact ImpX.here ⟨_, .cons (.tmp _ _ rfl) .nil, rfl⟩
      · refine have h := iteF hc h; tK <| tSR <| rM rfl rfl <| rM rfl rfl <| bndE h fun v4 e2 h => ARun.qv (t_index rfl rfl rfl e2 rfl rfl) rfl <| ARun.qv (q_load_rptr rfl rfl rfl) rfl <| rA rfl rfl <| rN <| tSR <| rM rfl rfl <| rM rfl rfl <| r_callp rfl (cmp_Compare_int_c rfl) (CoL.refl _) rfl <| rA rfl rfl <| rN <| tSR <| rM rfl rfl <| ARun.qv (q_neq rfl rfl) rfl <| rN <| ATodo.cond_d rfl (fun hc => ?_) (fun hc => ?_)
        · refine have h := iteT hc h; tSR <| rM rfl rfl <| rA rfl rfl <| rN <| ATodo.ret <| have h := outL h hA1; ?_
          obtain rfl := Option.some.inj h
          exact ImpX.here ⟨_, .cons (.tmp _ _ rfl) .nil, rfl⟩
        · refine have h := iteF hc h; tK <| ATodo.blk <| tR <| ARun.qv (q_addw rfl rfl) rfl <| rM rfl rfl <| rN <| ATodo.stop <| ?_
          obtain rfl := Option.some.inj h
          exact hJ1 _ _ rfl <| ImpX.lq [] rfl rfl rfl
    · refine have h := iteF hc h; ATodo.exit rfl <| have h := outL h hA1; ?_
      unfold slices_Compare_int_int_k1 at h
      refine tS <| tSR <| rM rfl rfl <| ARun.qv (t_len rfl) rfl <| rM rfl rfl <| ARun.qv (t_len rfl) rfl <| ARun.qv (q_lss rfl rfl) rfl <| rN <| ATodo.cond_d rfl (fun hc => ?_) (fun hc => ?_)
      · refine have h := iteT hc h; tSR <| rA rfl rfl <| rN <| ATodo.ret <| ?_
        obtain rfl := Option.some.inj h
        exact ImpX.here ⟨_, .cons (.tmp _ _ rfl) .nil, rfl⟩
      · refine have h := iteF hc h; tK <| tSR <| rA rfl rfl <| rN <| ATodo.ret <| ?_
        obtain rfl := Option.some.inj h
        exact ImpX.here ⟨_, .cons (.tmp _ _ rfl) .nil, rfl⟩

set_option maxHeartbeats 4000000 in
theorem Q_VersionOrder_c [GI : GTab] {p0x0 : Version} {p1x0 : Version} {r : Int} (h : Q_VersionOrder p0x0 p1x0 = some r) : Pu Tryz.prog 111 [.agg [I p0x0.Major, I p0x0.Minor, I p0x0.Patch], .agg [I p1x0.Major, I p1x0.Minor, I p1x0.Patch]] (I r) := by
  unfold Q_VersionOrder at h
  refine ACall.bodyN Tryz.func111 rfl Tryz.ntmps111 Tryz.results111 rfl rfl ?_
  refine tSR <| n_box rfl rfl rfl rfl fun b1 => n_box rfl rfl rfl rfl fun b2 => rA rfl rfl <| rN <| tSR <| rF rfl rfl rfl <| rL rfl rfl .p1 rfl rfl <| rF rfl rfl rfl <| rL rfl rfl .p1 rfl rfl <| rF rfl rfl rfl <| rL rfl rfl .p1 rfl rfl <| n_buildSliceL (xs := ([p0x0.Major, p0x0.Minor, p0x0.Patch] : List Int).map I) rfl rfl rfl rfl rfl rfl <| rF rfl rfl rfl <| rL rfl rfl .p0 rfl rfl <| rF rfl rfl rfl <| rL rfl rfl .p0 rfl rfl <| rF rfl rfl rfl <| rL rfl rfl .p0 rfl rfl <| n_buildSliceL (xs := ([p1x0.Major, p1x0.Minor, p1x0.Patch] : List Int).map I) rfl rfl rfl rfl rfl rfl <| bndE h fun v3 e1 h => r_callp rfl (slices_Compare_int_int_c e1) (CoL.refl _) rfl <| rA rfl rfl <| rN <| ATodo.ret <| ?_
  obtain rfl := Option.some.inj h
  exact ImpX.here ⟨_, .cons (.tmp _ _ rfl) .nil, rfl⟩

set_option maxHeartbeats 4000000 in
theorem Stream_RightImages_c [GI : GTab] {b_0 : Bk} {p0x0 : Fleetmake_Stream} {r : (List Image) × Fleetmake_Stream} (h : Stream_RightImages p0x0 = some r) : ACall Tryz.prog 98 [.ptr b_0 0] [(b_0, .cells [.list 1 (p0x0.L.map I), I p0x0.at_])] (T1 (fun d_0 => [(b_0, .cells [.list 1 (r.2.L.map I), I r.2.at_]), (d_0, .arr 6 (r.1.map Image.av))]) (fun d_0 => .sl 6 d_0 0 r.1.length)) := by
  unfold Stream_RightImages at h
  refine ACall.lessH ?_
  refine ACall.bodyN Tryz.func98 rfl Tryz.ntmps98 Tryz.results98 rfl rfl ?_
  refine tSR <| rA rfl rfl <| rN <| tSR <| rA rfl rfl <| rN <| tS <| tSR <| rA rfl rfl <| rN <| ATodo.block <| ATodo.loopI (fun x : (List Int) × Int × (List Image) × Int => Stream_RightImages_b1 x.1 x.2.1 x.2.2.1 x.2.2.2) (fun x σ' => ∃ (b8 : Bk), σ' = ⟨99, [(0, .ptr b_0 0), (3, .sl 6 b8 0 x.2.2.1.length), (4, I x.2.2.2)], [(b_0, .cells [.list 1 (x.1.map I), I x.2.1]), (b8, .arr 6 (x.2.2.1.map Image.av))]⟩) h ?_ ?_
  · exact ImpX.arr (s := 3) 6 rfl fun b11 => ImpX.lq [1, 0] ⟨b11, rfl⟩ rfl rfl
  · intro x z1 σ' J1 hmk h hJ1 hA1
    obtain ⟨l6, n7, l9, n10⟩ := x
    obtain ⟨b8, rfl⟩ := hmk
    replace h : Stream_RightImages_b1 l6 n7 l9 n10 = some z1 := h
    unfold Stream_RightImages_b1 at h
    refine tS <| tSR <| rM rfl rfl <| ARun.qv (q_leq rfl rfl) rfl <| rN <| ATodo.cond_d rfl (fun hc => ?_) (fun hc => ?_)
    · refine have h := iteT hc h; tK <| tS <| ATodo.block <| tSR <| n_buildSliceL (xs := ([(0 : Int), (5 : Int)]).map I) rfl rfl rfl rfl rfl rfl <| ARun.qv (t_len rfl) rfl <| rM rfl rfl <| rN <| ATodo.block <| ATodo.loopI (fun x : (List Int) × Int × (List Image) × Int => Stream_RightImages_b2 n10 x.1 x.2.1 x.2.2.1 x.2.2.2) (fun x σ' => ∃ (b19 : Bk), σ' = ⟨99, [(0, .ptr b_0 0), (3, .sl 6 b19 0 x.2.2.1.length), (4, I n10), (14, .list 1 ([(0 : Int), (5 : Int)].map I)), (15, I ([(0 : Int), (5 : Int)].length : Int)), (16, I x.2.2.2)], [(b_0, .cells [.list 1 (x.1.map I), I x.2.1]), (b19, .arr 6 (x.2.2.1.map Image.av))]⟩) h ?_ ?_
      · exact ImpX.lq [0, 0] ⟨b8, rfl⟩ rfl rfl
      · intro x z2 σ' J2 hmk h hJ2 hA2
        obtain ⟨l17, n18, l20, n21⟩ := x
        obtain ⟨b19, rfl⟩ := hmk
        replace h : Stream_RightImages_b2 n10 l17 n18 l20 n21 = some z2 := h
        unfold Stream_RightImages_b2 at h
        refine tSR <| ARun.qv (q_lss rfl rfl) rfl <| rN <| tS <| ATodo.cond_d rfl (fun hc => ?_) (fun hc => ?_)
        · refine have h := iteT hc h; tK <| tS <| ATodo.cut (fun σ' => ∃ (b24 : Bk) (l22 : List Int) (n23 : Int) (l25 : List Image), Stream_RightImages_j1 n21 l22 n23 l25 = some z2 ∧ σ' = ⟨99, [(0, .ptr b_0 0), (3, .sl 6 b24 0 l25.length), (4, I n10), (14, .list 1 ([(0 : Int), (5 : Int)].map I)), (15, I ([(0 : Int), (5 : Int)].length : Int)), (16, I n21)], [(b_0, .cells [.list 1 (l22.map I), I n23]), (b24, .arr 6 (l25.map Image.av))]⟩) ?_ ?_
          · refine ATodo.block <| tSR <| bndE h fun v26 e1 h => ARun.qv (t_index rfl rfl rfl e1 rfl rfl) rfl <| ARun.qv (q_load_rptr rfl rfl rfl) rfl <| rA rfl rfl <| rN <| tS <| tSR <| rM rfl rfl <| bndE h fun v27 e2 h => t_call0 rfl (Stream_Flip_c e2) (CoL.refl _) (.cons .p0 .nil) rfl rfl <| rN <| ATodo.cond rfl (fun hc => ?_) (fun hc => ?_)
            · exact have h := iteT hc h; ATodo.exit rfl <| ATodo.stop <| ImpX.lq [0, 0] ⟨b19, v27.2.L, v27.2.at_, l20, h, rfl⟩ rfl rfl
            · refine have h := iteFb hc h; tK <| tS <| bndE h fun v28 e3 h => bndE h fun v29 e4 h => bndE h fun v30 e5 h => ATodo.regionT (id := 9) (A := [0, 0, 3, 0, 0, 0, 0, 120, 0, 256, 1016, 2040, 0, 0, 13056, 32767, 0, 131071]) (H0 := [(b_0, .cells [.list 1 (v27.2.L.map I), I v27.2.at_])]) (HH := fun β => [(b_0, .cells [.list 1 (v30.2.L.map I), I v30.2.at_]), ((β 16), .cells [I (0 : Int), I (0 : Int), I (0 : Int), .nil, .nil, I (0 : Int)]), (b19, .arr 6 (l20.map Image.av))]) 17 mixed rfl (by kernel_rfl) (by kernel_rfl) [⟨none, some 9, [], fun _ => (b_0, .cells [.list 1 (v27.2.L.map I), I v27.2.at_]), none⟩, ⟨some 9, some 14, [], fun _ => (b_0, .cells [.list 1 (v28.2.L.map I), I v28.2.at_]), none⟩, ⟨some 14, none, [], fun _ => (b_0, .cells [.list 1 (v30.2.L.map I), I v30.2.at_]), none⟩, ⟨some 16, none, [], fun b => (b, .cells [I (0 : Int), I (0 : Int), I (0 : Int), .nil, .nil, I (0 : Int)]), none⟩] [16] rfl (by kernel_rfl) rfl (.cons .p0 .nil) (fun _ => rfl) <| AT.am 9 rfl rfl <| AM.qv (q_move rfl) rfl <| AM.qv (q_move rfl) rfl <| AM.qv (n_build rfl rfl rfl rfl rfl) rfl <| AM.buildSliceL (xs := ([([109] : Str)]).map AV.str) rfl rfl rfl rfl rfl rfl <| AM.buildSliceL (xs := ([([109] : Str)]).map AV.str) rfl rfl rfl rfl rfl rfl <| AM.buildSliceL (xs := ([([109] : Str), ([110] : Str)]).map AV.str) rfl rfl rfl rfl rfl rfl <| AM.buildSliceL (xs := ([([110] : Str)]).map AV.str) rfl rfl rfl rfl rfl rfl <| AM.buildSliceL (xs := ([[([109] : Str)], [([109] : Str)], [([109] : Str), ([110] : Str)], [([110] : Str)]]).map (encL 1 AV.str)) rfl rfl rfl rfl rfl rfl <| AM.qv (q_move rfl) rfl <| AM.nil <| AT.runS (av := I v28.1) (Ti := [(b_0, .cells [.list 1 (v27.2.L.map I), I v27.2.at_])]) (Pi := [(b_0, .cells [.list 1 (v28.2.L.map I), I v28.2.at_])]) (fun _ => rfl) (fun _ => rfl) (fun _ => rfl) rfl rfl rfl ?_ ?_
              · exact t_call0 rfl (Stream_Next_c e3) (CoL.refl _) (.cons .p0 .nil) rfl rfl <| ARun.nil ⟨_, rfl, rfl⟩
              refine AT.am 4 rfl rfl <| AM.qv (t_index rfl rfl rfl e4 rfl rfl) rfl <| AM.qv (q_load_rptr rfl rfl rfl) rfl <| AM.qv (q_move rfl) rfl <| AM.buildSliceL (xs := ([(1 : Int), (5 : Int), (5 : Int), (10 : Int)]).map I) rfl rfl rfl rfl rfl rfl <| AM.nil <| AT.runS (av := I v30.1) (Ti := [(b_0, .cells [.list 1 (v28.2.L.map I), I v28.2.at_])]) (Pi := [(b_0, .cells [.list 1 (v30.2.L.map I), I v30.2.at_])]) (fun _ => rfl) (fun _ => rfl) (fun _ => rfl) rfl rfl rfl ?_ ?_
              · exact t_call0 rfl (Stream_Pick_c e5) (CoL.refl _) (.cons .p0 .nil) rfl rfl <| ARun.nil ⟨_, rfl, rfl⟩
              refine AT.am 1 rfl rfl <| AM.qv (n_build rfl rfl rfl rfl rfl) rfl <| AM.nil <| AT.runD (V := fun b => .ptr b 0) (Ti := []) (Pi := fun b => [(b, .cells [I (0 : Int), I (0 : Int), I (0 : Int), .nil, .nil, I (0 : Int)])]) (fun _ => rfl) (fun _ => rfl) (fun _ _ => rfl) rfl (fun _ => rfl) rfl rfl rfl ?_ ?_
              · exact n_alloc rfl rfl rfl rfl fun b31 => ARun.nil ⟨b31, _, rfl, rfl⟩
              refine AT.nilN (fun _ => rfl) fun β => ?_
              generalize β 16 = b31
              clear β
              refine n_store_ptr rfl rfl rfl rfl .p1 rfl rfl <| rN <| tSR <| rM rfl rfl <| rM rfl rfl <| ARun.qv (q_subw rfl rfl) rfl <| bndE h fun v32 e6 h => t_call0 rfl (Stream_Range_c e6) (CoL.refl _) (.cons .p0 .nil) rfl rfl <| rA rfl rfl <| rN <| tSR <| rM rfl rfl <| r_callp rfl (whole_c rfl) (CoL.refl _) rfl <| rM rfl rfl <| ARun.qv (q_subw rfl rfl) rfl <| rM rfl rfl <| n_buildSliceL (xs := ([(0 : Int), (5 : Int), (9999 : Int)]).map I) rfl rfl rfl rfl rfl rfl <| bndE h fun v33 e7 h => t_call0 rfl (Stream_Pick_c e7) (CoL.refl _) (.cons .p0 .nil) rfl rfl <| ARun.qv (n_build rfl rfl rfl rfl rfl) rfl <| ARun.qv (n_build rfl rfl rfl rfl rfl) rfl <| n_alloc rfl rfl rfl rfl fun b34 => n_store_ptr rfl rfl rfl rfl .p0 rfl rfl <| rN <| tS <| tS <| ATodo.cut (fun σ' => ∃ (l35 : List Int) (n36 : Int) (c37 : Bool), Stream_RightImages_j2 n10 l20 n21 v26 v29 v30 v32 v33 l35 n36 c37 = some z2 ∧ σ' = ⟨99, [(0, .ptr b_0 0), (3, .sl 6 b19 0 l20.length), (4, I n10), (7, .ptr b31 0), (8, I v32.1), (9, .ptr b34 0), (14, .list 1 ([(0 : Int), (5 : Int)].map I)), (15, I ([(0 : Int), (5 : Int)].length : Int)), (16, I n21), (56, .bool c37)], [(b_0, .cells [.list 1 (l35.map I), I n36]), (b19, .arr 6 (l20.map Image.av)), (b31, .cells [I n10, I v26, I (0 : Int), .list 1 (v29.map AV.str), .nil, I v30.1]), (b34, .cells [I ((whole v32.1).Major), I ((whole v32.1).Minor), I ((whole v32.1).Patch), I (w64 (n10 - (1 : Int))), I v33.1, I (9999 : Int)])]⟩) ?_ ?_
              · refine tR <| rM rfl rfl <| bndE h fun v38 e8 h => t_call0 rfl (Stream_Flip_c e8) (CoL.refl _) (.cons .p1 .nil) rfl rfl <| rM rfl rfl <| ARun.guard rfl rfl rfl (fun hc => ?_) (fun hc => ?_)
                · rw [andTb hc] at h
                  exact rM rfl rfl <| rY rfl rfl rfl <| ARun.qv (q_eql rfl rfl) rfl <| rT rfl rfl rfl <| rN <| ATodo.stop <| ImpX.lq [0, 2, 1, 0] ⟨v38.2.L, v38.2.at_, decide (v26 = (5 : Int)), h, rfl⟩ rfl rfl
                · rw [andFb hc] at h
                  exact rG rfl rfl rfl rfl <| rE rfl rfl rfl <| rN <| ATodo.stop <| ImpX.lq [0, 2, 1, 0] ⟨v38.2.L, v38.2.at_, false, h, rfl⟩ rfl rfl
              · rintro σ' ⟨l35, n36, c37, h, rfl⟩
                unfold Stream_RightImages_j2 at h
                refine ATodo.cut (fun σ' => ∃ (b39 : Bk) (l40 : List Range) (n41 : Int) (n42 : Int) (n43 : Int) (n44 : Int) (n45 : Int), Stream_RightImages_j3 n10 l20 n21 v26 v29 v30 l35 n36 l40 n41 n42 n43 n44 n45 = some z2 ∧ σ' = ⟨99, [(0, .ptr b_0 0), (3, .sl 6 b19 0 l20.length), (4, I n10), (7, .ptr b31 0), (9, .ptr b34 0), (14, .list 1 ([(0 : Int), (5 : Int)].map I)), (15, I ([(0 : Int), (5 : Int)].length : Int)), (16, I n21)], [(b_0, .cells [.list 1 (l35.map I), I n36]), (b19, .arr 6 (l20.map Image.av)), (b31, .cells [I n10, I v26, I (0 : Int), .list 1 (v29.map AV.str), .sl 6 b39 0 l40.length, I v30.1]), (b39, .arr 6 (l40.map Range.av)), (b34, .cells [I n41, I n42, I n43, I n44, I n45, I (9999 : Int)])]⟩) ?_ ?_
                · refine ATodo.cond rfl (fun hc => ?_) (fun hc => ?_)
                  · exact have h := iteT hc h; tS <| ATodo.regionM (id := 13) (A := [0, 1, 0, 4, 0, 28, 60, 124, 255, 511, 1023]) 8 mixed rfl (by kernel_rfl) (by kernel_rfl) <| AM.qv (n_field_ptr rfl rfl) rfl <| AM.qv (q_load_ptr rfl rfl .p2 rfl) rfl <| AM.qv (q_move rfl) rfl <| AM.callp rfl (whole_c rfl) (CoL.refl _) rfl <| AM.qv (q_move rfl) rfl <| AM.callp rfl (whole_c rfl) (CoL.refl _) rfl <| AM.qv (n_build rfl rfl rfl rfl rfl) rfl <| AM.buildSliceL (xs := ([(⟨(whole v32.1), (whole v32.1)⟩ : Range)]).map Range.av) rfl rfl rfl rfl rfl rfl <| AM.nil <| bndE h fun l46 e9 h => t_append0 (g := Range.av) rfl rfl rfl rfl rfl rfl rfl rfl (.list _) e9 fun b47 => rF rfl rfl rfl <| n_store_ptr rfl rfl rfl rfl .p3 rfl rfl <| rN <| tR <| rM rfl rfl <| r_callp rfl (whole_c rfl) (CoL.refl _) rfl <| rM rfl rfl <| ARun.qv (n_build rfl rfl rfl rfl rfl) rfl <| ARun.qv (n_build rfl rfl rfl rfl rfl) rfl <| n_store_ptr rfl rfl rfl rfl .p4 rfl rfl <| rN <| ATodo.stop <| ImpX.lq [1, 1, 1, 0, 0] ⟨b47, l46, (whole n10).Major, (whole n10).Minor, (whole n10).Patch, n10, (4 : Int), h, rfl⟩ rfl rfl
                  · exact have h := iteFb hc h; tK <| ATodo.stop <| ImpX.arrBox (j := 4) 6 (fun _ => .p2) rfl (fun _ => rfl) (fun _ => rfl) fun b48 => ImpX.lq [1, 1, 1, 0, 0] ⟨b48, [], (whole v32.1).Major, (whole v32.1).Minor, (whole v32.1).Patch, w64 (n10 - (1 : Int)), v33.1, h, rfl⟩ rfl rfl
                · rintro σ' ⟨b39, l40, n41, n42, n43, n44, n45, h, rfl⟩
                  unfold Stream_RightImages_j3 at h
                  refine tS <| tS <| ATodo.cut (fun σ' => ∃ (c49 : Bool), Stream_RightImages_j4 n10 l20 n21 v26 v29 v30 l35 n36 l40 n41 n42 n43 n44 n45 c49 = some z2 ∧ σ' = ⟨99, [(0, .ptr b_0 0), (3, .sl 6 b19 0 l20.length), (4, I n10), (7, .ptr b31 0), (9, .ptr b34 0), (14, .list 1 ([(0 : Int), (5 : Int)].map I)), (15, I ([(0 : Int), (5 : Int)].length : Int)), (16, I n21), (86, .bool c49)], [(b_0, .cells [.list 1 (l35.map I), I n36]), (b19, .arr 6 (l20.map Image.av)), (b31, .cells [I n10, I v26, I (0 : Int), .list 1 (v29.map AV.str), .sl 6 b39 0 l40.length, I v30.1]), (b39, .arr 6 (l40.map Range.av)), (b34, .cells [I n41, I n42, I n43, I n44, I n45, I (9999 : Int)])]⟩) ?_ ?_
                  · refine ATodo.regionM (id := 15) (A := [0, 1, 3, 7, 15, 31, 63, 127, 255, 511, 31, 1055, 4095, 8191, 16383]) 15 mixed rfl (by kernel_rfl) (by kernel_rfl) <| AM.qv (n_field_ptr rfl rfl) rfl <| AM.qv (q_load_ptr rfl rfl .p2 rfl) rfl <| AM.qv (t_len_sl rfl) rfl <| AM.qv (q_eql rfl rfl) rfl <| AM.qv (q_move rfl) rfl <| AM.guard_df rfl rfl rfl (fun hc => ?_) (fun hc => ?_)
                    · exact have h := iteF hc h; AM.qv (n_field_ptr rfl rfl) rfl <| AM.guard_yes rfl rfl rfl <| AM.qv (q_load_ptr rfl rfl .p2 rfl) rfl <| AM.guard_yes rfl rfl rfl <| bndE h fun v50 e10 h => AM.qv (t_index_sl rfl rfl rfl e10) rfl <| AM.guard_yes rfl rfl rfl <| AM.qv (t_field_aptr rfl rfl) rfl <| AM.guard_yes rfl rfl rfl <| AM.qv (t_load_aptr_part (g := Range.av) rfl rfl (.inl .p3) e10 rfl rfl) rfl <| AM.guard_yes rfl rfl rfl <| AM.qv (n_field_ptr rfl rfl) rfl <| AM.guard_yes rfl rfl rfl <| AM.qv (n_load_ptr_part rfl rfl .p4 rfl rfl) rfl <| AM.guard_yes rfl rfl rfl <| bndE h fun v51 e11 h => AM.callp rfl (Q_VersionOrder_c e11) (CoL.refl _) rfl <| AM.guard_yes rfl rfl rfl <| AM.qv (q_lss rfl rfl) rfl <| AM.qv (q_pick_f rfl rfl) rfl <| AM.nil <| rN <| ATodo.stop <| ImpX.lq [0, 0, 0, 0, 0] ⟨decide (v51 < (0 : Int)), h, rfl⟩ rfl rfl
                    · exact have h := iteT hc h; AM.guard_no rfl rfl rfl rfl <| AM.guard_no rfl rfl rfl rfl <| AM.guard_no rfl rfl rfl rfl <| AM.guard_no rfl rfl rfl rfl <| AM.guard_no rfl rfl rfl rfl <| AM.guard_no rfl rfl rfl rfl <| AM.guard_no rfl rfl rfl rfl <| AM.guard_no rfl rfl rfl rfl <| AM.qv (q_pick_t rfl rfl) rfl <| AM.nil <| rN <| ATodo.stop <| ImpX.lq [0, 0, 0, 0, 0] ⟨true, h, rfl⟩ rfl rfl
                  · rintro σ' ⟨c49, h, rfl⟩
                    unfold Stream_RightImages_j4 at h
                    refine ATodo.cut (fun σ' => ∃ (b52 : Bk) (l53 : List Range), Stream_RightImages_j5 n10 l20 n21 v26 v29 v30 l35 n36 l53 = some z2 ∧ σ' = ⟨99, [(0, .ptr b_0 0), (3, .sl 6 b19 0 l20.length), (4, I n10), (7, .ptr b31 0), (14, .list 1 ([(0 : Int), (5 : Int)].map I)), (15, I ([(0 : Int), (5 : Int)].length : Int)), (16, I n21)], [(b_0, .cells [.list 1 (l35.map I), I n36]), (b19, .arr 6 (l20.map Image.av)), (b31, .cells [I n10, I v26, I (0 : Int), .list 1 (v29.map AV.str), .sl 6 b52 0 l53.length, I v30.1]), (b52, .arr 6 (l53.map Range.av))]⟩) ?_ ?_
                    · refine ATodo.cond rfl (fun hc => ?_) (fun hc => ?_)
                      · exact have h := iteT hc h; tR <| rF rfl rfl rfl <| rL rfl rfl .p2 rfl rfl <| ARun.qv (q_load_ptr_all rfl rfl .p4 rfl) rfl <| n_buildSliceL (xs := ([(⟨(⟨n41, n42, n43⟩ : Version), (⟨n44, n45, (9999 : Int)⟩ : Version)⟩ : Range)]).map Range.av) rfl rfl rfl rfl rfl rfl <| bndE h fun l54 e12 h => t_append (g := Range.av) rfl rfl rfl rfl rfl rfl rfl rfl (.list _) e12 (fun _ => .p3) rfl fun b55 => rF rfl rfl rfl <| n_store_ptr rfl rfl rfl rfl .p2 rfl rfl <| rN <| ATodo.stop <| ImpX.lq [0, 0, 0, 0] ⟨b55, l54, h, rfl⟩ rfl rfl
                      · exact have h := iteFb hc h; tK <| ATodo.stop <| ImpX.lq [0, 0, 0, 0] ⟨b39, l40, h, rfl⟩ rfl rfl
                    · rintro σ' ⟨b52, l53, h, rfl⟩
                      unfold Stream_RightImages_j5 at h
                      exact tR <| rM rfl rfl <| ARun.qv (q_load_ptr_all rfl rfl .p2 rfl) rfl <| ARun.ghost <| ImpX.freeze .p3 <| ImpX.here <| n_buildSliceL (xs := [.agg [I n10, I v26, I (0 : Int), .list 1 (v29.map AV.str), .sl 6 b52 0 l53.length, I v30.1]]) rfl rfl rfl rfl rfl rfl <| ARun.ghost <| ImpX.cox (s := 95) (av' := .list 6 (([(⟨(⟨n10, v26, (0 : Int)⟩ : Version), v29, l53, v30.1⟩ : Image)] : List Image).map Image.av)) rfl (CoX.listL (.cons .r (.cons .r (.cons .r (.cons .r (.cons (.co (Co.froT .p3)) (.cons .r .nil)))))) rfl rfl) <| ImpX.here <| bndE h fun l56 e13 h => t_append (g := Image.av) rfl rfl rfl rfl rfl rfl rfl rfl (.list _) e13 (fun _ => .p1) rfl fun b57 => rA rfl rfl <| rN <| ATodo.blk <| ATodo.stop <| ImpX.lq [0, 0] ⟨b57, l35, n36, l56, h, rfl⟩ rfl rfl
          · rintro σ' ⟨b24, l22, n23, l25, h, rfl⟩
            unfold Stream_RightImages_j1 at h
            refine tR <| ARun.qv (q_addw rfl rfl) rfl <| rM rfl rfl <| rN <| ATodo.stop <| ?_
            obtain rfl := Option.some.inj h
            exact hJ2 _ _ rfl <| ImpX.lq [0, 0] ⟨b24, rfl⟩ rfl rfl
        · refine have h := iteF hc h; ATodo.exit rfl <| have h := outL h hA2; ATodo.blk <| tR <| rM rfl rfl <| ARun.qv (q_addw rfl rfl) rfl <| rA rfl rfl <| rN <| ATodo.stop <| ?_
          obtain rfl := Option.some.inj h
          exact hJ1 _ _ rfl <| ImpX.lq [0, 0] ⟨b19, rfl⟩ rfl rfl
    · refine have h := iteF hc h; ATodo.exit rfl <| have h := outL h hA1; tSR <| rM rfl rfl <| rA rfl rfl <| rN <| ATodo.ret <| ?_
      obtain rfl := Option.some.inj h
      exact ImpX.here ⟨_, .cons (.tmp _ _ rfl) .nil, _, .cons .p0 (.cons .p0 .nil), ⟨b8, rfl, rfl⟩⟩

set_option maxHeartbeats 4000000 in
theorem Stream_RightVersion_c [GI : GTab] {b_0 : Bk} {p0x0 : Fleetmake_Stream} {r : Version × Fleetmake_Stream} (h : Stream_RightVersion p0x0 = some r) : ACall Tryz.prog 100 [.ptr b_0 0] [(b_0, .cells [.list 1 (p0x0.L.map I), I p0x0.at_])] (T0 ([(b_0, .cells [.list 1 (r.2.L.map I), I r.2.at_])]) (.agg [I r.1.Major, I r.1.Minor, I r.1.Patch])) := by
  unfold Stream_RightVersion at h
  refine ACall.lessH ?_
  refine ACall.bodyN Tryz.func100 rfl Tryz.ntmps100 Tryz.results100 rfl rfl ?_
  refine tSR <| n_alloc rfl rfl rfl rfl fun b1 => rN <| tSR <| rM rfl rfl <| bndE h fun v2 e1 h => t_call0 rfl (Stream_Range_c e1) (CoL.refl _) (.cons .p1 .nil) rfl rfl <| rM rfl rfl <| n_buildSliceL (xs := ([(0 : Int), (0 : Int), (1 : Int), (5 : Int), (9999 : Int)]).map I) rfl rfl rfl rfl rfl rfl <| bndE h fun v3 e2 h => t_call0 rfl (Stream_Pick_c e2) (CoL.refl _) (.cons .p0 .nil) rfl rfl <| rM rfl rfl <| n_buildSliceL (xs := ([(0 : Int), (0 : Int), (0 : Int), (3 : Int), (9999 : Int)]).map I) rfl rfl rfl rfl rfl rfl <| bndE h fun v4 e3 h => t_call0 rfl (Stream_Pick_c e3) (CoL.refl _) (.cons .p0 .nil) rfl rfl <| ARun.qv (n_build rfl rfl rfl rfl rfl) rfl <| n_store_ptr rfl rfl rfl rfl .p1 rfl rfl <| rN <| ATodo.ret <| ?_
  obtain rfl := Option.some.inj h
  exact ImpX.here ⟨_, .cons (.all _ _ _ _ _ _ rfl .p1 TUnder.h TInfo.h rfl rfl) .nil, _, .cons .p0 .nil, ⟨rfl, rfl⟩⟩

set_option maxHeartbeats 4000000 in
theorem Stream_Odd_c [GI : GTab] {b_0 : Bk} {p0x0 : Fleetmake_Stream} {p1x0 : Int} {p2x0 : Int} {r : Int × Fleetmake_Stream} (h : Stream_Odd p0x0 p1x0 p2x0 = some r) : ACall Tryz.prog 58 [.ptr b_0 0, I p1x0, I p2x0] [(b_0, .cells [.list 1 (p0x0.L.map I), I p0x0.at_])] (T0 ([(b_0, .cells [.list 1 (r.2.L.map I), I r.2.at_])]) (I r.1)) := by
  unfold Stream_Odd at h
  refine ACall.lessH ?_
  refine ACall.bodyN Tryz.func58 rfl Tryz.ntmps58 Tryz.results58 rfl rfl ?_
  refine tSR <| rA rfl rfl <| rN <| tS <| tSR <| rM rfl rfl <| bndE h fun v1 e1 h => t_call0 rfl (Stream_Flip_c e1) (CoL.refl _) (.cons .p0 .nil) rfl rfl <| rN <| ATodo.cond rfl (fun hc => ?_) (fun hc => ?_)
  · refine have h := iteT hc h; tSR <| rM rfl rfl <| rM rfl rfl <| ARun.qv (q_subw rfl rfl) rfl <| rM rfl rfl <| ARun.qv (q_addw rfl rfl) rfl <| rM rfl rfl <| rM rfl rfl <| n_buildSliceL (xs := ([w64 (p1x0 - (1 : Int)), w64 (p2x0 + (1 : Int)), p1x0, p2x0, (-1099511627776 : Int), (1099511627776 : Int)]).map I) rfl rfl rfl rfl rfl rfl <| bndE h fun v2 e2 h => t_call0 rfl (Stream_Pick_c e2) (CoL.refl _) (.cons .p0 .nil) rfl rfl <| rA rfl rfl <| rN <| ATodo.ret <| ?_
    obtain rfl := Option.some.inj h
    exact ImpX.here ⟨_, .cons (.tmp _ _ rfl) .nil, _, .cons .p0 .nil, ⟨rfl, rfl⟩⟩
  · refine have h := iteFb hc h; tK <| tSR <| rM rfl rfl <| rM rfl rfl <| rM rfl rfl <| bndE h fun v3 e3 h => t_call0 rfl (Stream_Range_c e3) (CoL.refl _) (.cons .p0 .nil) rfl rfl <| rA rfl rfl <| rN <| ATodo.ret <| ?_
    obtain rfl := Option.some.inj h
    exact ImpX.here ⟨_, .cons (.tmp _ _ rfl) .nil, _, .cons .p0 .nil, ⟨rfl, rfl⟩⟩

set_option maxHeartbeats 4000000 in
theorem Stream_Version_c [GI : GTab] {b_0 : Bk} {p0x0 : Fleetmake_Stream} {r : Version × Fleetmake_Stream} (h : Stream_Version p0x0 = some r) : ACall Tryz.prog 43 [.ptr b_0 0] [(b_0, .cells [.list 1 (p0x0.L.map I), I p0x0.at_])] (T0 ([(b_0, .cells [.list 1 (r.2.L.map I), I r.2.at_])]) (.agg [I r.1.Major, I r.1.Minor, I r.1.Patch])) := by
  unfold Stream_Version at h
  refine ACall.lessH ?_
  refine ACall.bodyN Tryz.func43 rfl Tryz.ntmps43 Tryz.results43 rfl rfl ?_
  refine tSR <| n_alloc rfl rfl rfl rfl fun b1 => rN <| tSR <| rM rfl rfl <| bndE h fun v2 e1 h => t_call0 rfl (Stream_RightVersion_c e1) (CoL.refl _) (.cons .p1 .nil) rfl rfl <| n_alloc rfl rfl rfl rfl fun b3 => n_store_ptr rfl rfl rfl rfl .p0 rfl rfl <| rN <| tS <| tSR <| rM rfl rfl <| bndE h fun v4 e2 h => t_call0 rfl (Stream_Flip_c e2) (CoL.refl _) (.cons .p1 .nil) rfl rfl <| rN <| ATodo.cut (fun σ' => ∃ (l5 : List Int) (n6 : Int) (n7 : Int) (n8 : Int), Stream_Version_j1 v2 l5 n6 n7 n8 = some r ∧ σ' = ⟨15, [(2, .ptr b1 0), (3, .ptr b3 0)], [(b_0, .cells [.list 1 (l5.map I), I n6]), (b1, .cells [I (0 : Int), I (0 : Int), I (0 : Int)]), (b3, .cells [I v2.1.Major, I n7, I n8])]⟩) ?_ ?_
  · refine ATodo.cond rfl (fun hc => ?_) (fun hc => ?_)
    · exact have h := iteT hc h; tSR <| rM rfl rfl <| bndE h fun v9 e3 h => t_call0 rfl (Stream_Odd_c e3) (CoL.refl _) (.cons .p0 .nil) rfl rfl <| rF rfl rfl rfl <| n_store_ptr rfl rfl rfl rfl .p1 rfl rfl <| rN <| tR <| rM rfl rfl <| bndE h fun v10 e4 h => t_call0 rfl (Stream_Odd_c e4) (CoL.refl _) (.cons .p0 .nil) rfl rfl <| rF rfl rfl rfl <| n_store_ptr rfl rfl rfl rfl .p1 rfl rfl <| rN <| ATodo.stop <| ImpX.lq [0, 1, 0] ⟨v10.2.L, v10.2.at_, v10.1, v9.1, h, rfl⟩ rfl rfl
    · exact have h := iteFb hc h; tK <| ATodo.stop <| ImpX.lq [0, 1, 0] ⟨v4.2.L, v4.2.at_, v2.1.Minor, v2.1.Patch, h, rfl⟩ rfl rfl
  · rintro σ' ⟨l5, n6, n7, n8, h, rfl⟩
    unfold Stream_Version_j1 at h
    refine tSR <| ARun.qv (q_load_ptr_all rfl rfl .p2 rfl) rfl <| n_store_ptr rfl rfl rfl rfl .p1 rfl rfl <| rN <| ATodo.ret <| ?_
    obtain rfl := Option.some.inj h
    exact ImpX.here ⟨_, .cons (.all _ _ _ _ _ _ rfl .p1 TUnder.h TInfo.h rfl rfl) .nil, _, .cons .p0 .nil, ⟨rfl, rfl⟩⟩

set_option maxHeartbeats 4000000 in
theorem slices_Clone_Range_Range_c [GI : GTab] {p0x0 : List Range} {r : (List Range)} (h : slices_Clone_Range_Range p0x0 = some r) : ACall Tryz.prog 99 [.list 6 (p0x0.map Range.av)] [] (T1 (fun d_0 => [(d_0, .arr 6 (r.map Range.av))]) (fun d_0 => .sl 6 d_0 0 r.length)) := by
  unfold slices_Clone_Range_Range at h
  refine ACall.lessH ?_
  refine ACall.bodyN Tryz.func99 rfl Tryz.ntmps99 Tryz.results99 rfl rfl ?_
  refine ATodo.seq ?_
  refine ATodo.region ?_
  refine ARun.qv (q_assign rfl) rfl ?_
  refine ARun.nil ?_
  refine ATodo.seq ?_
  refine ATodo.seq ?_
  refine ATodo.region ?_
  refine ARun.qv (q_move rfl) rfl ?_
  refine r_eqnil rfl rfl rfl rfl (fun c hc => ?_)
  refine ARun.nil ?_
  refine ATodo.cond rfl (fun hT => ?_) (fun hF => ?_)
  · obtain rfl := app_nil_some h (List.map_eq_nil_iff.1 (hc hT))
    refine ATodo.seq ?_
    refine ATodo.region ?_
    refine ARun.qv (q_assign rfl) rfl ?_
    refine ARun.nil ?_
    refine ATodo.ret ?_
    refine ImpX.arr (s := 2) 6 rfl (fun b1 => ?_)
    exact ImpX.here ⟨_, .cons (.tmp _ _ rfl) .nil, _, .cons .here .nil, ⟨b1, rfl, rfl⟩⟩
  · refine ATodo.skip ?_
    refine ATodo.seq ?_
    refine ATodo.region ?_
    refine n_buildSlice (xs := ([] : List Range).map Range.av) rfl rfl rfl rfl rfl rfl (fun b2 => ?_)
    refine ARun.qv (q_move rfl) rfl ?_
    refine t_append (g := Range.av) (Xs := []) rfl rfl rfl rfl rfl rfl rfl rfl (.list _) h (fun _ => .here) rfl (fun b3 => ?_)
    refine ARun.qv (q_assign rfl) rfl ?_
    refine ARun.nil ?_
    refine ATodo.ret ?_
    exact ImpX.here ⟨_, .cons (.tmp _ _ rfl) .nil, _, .cons .here .nil, ⟨b3, rfl, rfl⟩⟩

set_option maxHeartbeats 4000000 in
theorem Stream_Images_c [GI : GTab] {b_0 : Bk} {p0x0 : Fleetmake_Stream} {r : (List Image) × Fleetmake_Stream} (h : Stream_Images p0x0 = some r) : ACall Tryz.prog 42 [.ptr b_0 0] [(b_0, .cells [.list 1 (p0x0.L.map I), I p0x0.at_])] (T1 (fun d_0 => [(b_0, .cells [.list 1 (r.2.L.map I), I r.2.at_]), (d_0, .arr 6 (r.1.map Image.av))]) (fun d_0 => .sl 6 d_0 0 r.1.length)) := by
  unfold Stream_Images at h
  refine ACall.lessH ?_
  refine ACall.bodyN Tryz.func42 rfl Tryz.ntmps42 Tryz.results42 rfl rfl ?_
  refine tSR <| rA rfl rfl <| rN <| tSR <| rM rfl rfl <| bndE h fun v1 e1 h => t_call1 rfl (Stream_RightImages_c e1) (CoL.refl _) (.cons .p0 .nil) (fun _ => rfl) rfl fun b2 => rA rfl rfl <| rN <| tS <| tS <| ATodo.cut (fun σ' => ∃ (l3 : List Int) (n4 : Int) (c5 : Bool), Stream_Images_j1 v1 l3 n4 c5 = some r ∧ σ' = ⟨80, [(0, .ptr b_0 0), (3, .sl 6 b2 0 v1.1.length), (13, .bool c5)], [(b_0, .cells [.list 1 (l3.map I), I n4]), (b2, .arr 6 (v1.1.map Image.av))]⟩) ?_ ?_
  · refine tR <| rM rfl rfl <| ARun.qv (t_len_sl rfl) rfl <| ARun.qv (q_gtr rfl rfl) rfl <| rM rfl rfl <| ARun.guard_dt rfl rfl rfl (fun hc => ?_) (fun hc => ?_)
    · exact have h := iteT hc h; rM rfl rfl <| rY rfl rfl rfl <| bndE h fun v6 e2 h => t_call0 rfl (Stream_Flip_c e2) (CoL.refl _) (.cons .p0 .nil) rfl rfl <| rT rfl rfl rfl <| rN <| ATodo.stop <| ImpX.lq [0, 0] ⟨v6.2.L, v6.2.at_, v6.1, h, rfl⟩ rfl rfl
    · exact have h := iteF hc h; rG rfl rfl rfl rfl <| rE rfl rfl rfl <| rN <| ATodo.stop <| ImpX.lq [0, 0] ⟨v1.2.L, v1.2.at_, false, h, rfl⟩ rfl rfl
  · rintro σ' ⟨l3, n4, c5, h, rfl⟩
    unfold Stream_Images_j1 at h
    refine ATodo.cut (fun σ' => ∃ (l7 : List Int) (n8 : Int) (l9 : List Image), Stream_Images_j2 l7 n8 l9 = some r ∧ σ' = ⟨80, [(3, .sl 6 b2 0 l9.length)], [(b_0, .cells [.list 1 (l7.map I), I n8]), (b2, .arr 6 (l9.map Image.av))]⟩) ?_ ?_
    · refine ATodo.cond rfl (fun hc => ?_) (fun hc => ?_)
      · refine have h := iteT hc h; tSR <| rM rfl rfl <| rM rfl rfl <| rM rfl rfl <| ARun.qv (t_len_sl rfl) rfl <| bndE h fun v10 e3 h => t_call0 rfl (Stream_Next_c e3) (CoL.refl _) (.cons .p0 .nil) rfl rfl <| bndE h fun v11 e4 h => ARun.qv (t_index_sl rfl rfl rfl e4) rfl <| rA rfl rfl <| rN <| tSR <| rM rfl rfl <| bndE h fun v12 e5 h => t_call0 rfl (Stream_Next_c e5) (CoL.refl _) (.cons .p0 .nil) rfl rfl <| rN <| ATodo.block <| tSR <| ARun.qv (q_eql rfl rfl) rfl <| rA rfl rfl <| rN <| ATodo.cut (fun σ' => ∃ (l13 : List Int) (n14 : Int) (l15 : List Image), Stream_Images_j3 l13 n14 l15 = some r ∧ σ' = ⟨80, [(3, .sl 6 b2 0 l15.length)], [(b_0, .cells [.list 1 (l13.map I), I n14]), (b2, .arr 6 (l15.map Image.av))]⟩) ?_ ?_
        · refine ATodo.cond_d rfl (fun hc => ?_) (fun hc => ?_)
          · exact have h := iteT hc h; tR <| rM rfl rfl <| rM rfl rfl <| bndE h fun v16 e6 h => t_call0 rfl (Stream_Version_c e6) (CoL.refl _) (.cons .p0 .nil) rfl rfl <| ARun.qv (q_nilCheck_aptr rfl) rfl <| ARun.qv (t_field_aptr rfl rfl) rfl <| t_store_aptr1 (g := Image.av) (el' := (⟨v16.1, v11.Models, v11.From, v11.Size⟩ : Image)) rfl rfl rfl rfl e4 rfl .p1 rfl <| ARun.ghost <| ImpX.eqs (s := 3) (av' := .sl 6 b2 0 (v1.1.set v10.1.toNat (⟨v16.1, v11.Models, v11.From, v11.Size⟩ : Image)).length) rfl (by rw [List.length_set]) <| ImpX.here <| ARun.ghost <| ImpX.eqs (s := 14) (av' := .sl 6 b2 0 (v1.1.set v10.1.toNat (⟨v16.1, v11.Models, v11.From, v11.Size⟩ : Image)).length) rfl (by rw [List.length_set]) <| ImpX.here <| ARun.ghost <| ImpX.eqs (s := 16) (av' := .sl 6 b2 0 (v1.1.set v10.1.toNat (⟨v16.1, v11.Models, v11.From, v11.Size⟩ : Image)).length) rfl (by rw [List.length_set]) <| ImpX.here <| rN <| ATodo.stop <| ImpX.lq [0, 0] ⟨v16.2.L, v16.2.at_, v1.1.set v10.1.toNat (⟨v16.1, v11.Models, v11.From, v11.Size⟩ : Image), h, rfl⟩ rfl rfl
          · refine have h := iteF hc h; tSR <| ARun.qv (q_eql rfl rfl) rfl <| rA rfl rfl <| rN <| ATodo.cut (fun σ' => ∃ (l17 : List Int) (n18 : Int) (l19 : List Image), Stream_Images_j4 l17 n18 l19 = some r ∧ σ' = ⟨80, [(3, .sl 6 b2 0 l19.length)], [(b_0, .cells [.list 1 (l17.map I), I n18]), (b2, .arr 6 (l19.map Image.av))]⟩) ?_ ?_
            · refine ATodo.cond_d rfl (fun hc => ?_) (fun hc => ?_)
              · exact have h := iteT hc h; tR <| rM rfl rfl <| n_buildSliceL (xs := ([([110] : Str), ([109] : Str)]).map AV.str) rfl rfl rfl rfl rfl rfl <| n_buildSliceL (xs := ([([] : Str)]).map AV.str) rfl rfl rfl rfl rfl rfl <| n_buildSliceL (xs := ([([109] : Str), ([109] : Str)]).map AV.str) rfl rfl rfl rfl rfl rfl <| n_buildSliceL (xs := [.nil, .list 1 ([([110] : Str), ([109] : Str)].map AV.str), .list 1 ([([] : Str)].map AV.str), .list 1 ([([109] : Str), ([109] : Str)].map AV.str)]) rfl rfl rfl rfl rfl rfl <| ARun.ghost <| ImpX.cox (s := 40) (av' := .list 1 (([[], [([110] : Str), ([109] : Str)], [([] : Str)], [([109] : Str), ([109] : Str)]] : List (List Str)).map (encL 1 AV.str))) rfl (CoX.listL (.cons .n (.cons .r (.cons .r (.cons .r .nil)))) rfl rfl) <| ImpX.here <| rM rfl rfl <| bndE h fun v20 e7 h => t_call0 rfl (Stream_Next_c e7) (CoL.refl _) (.cons .p0 .nil) rfl rfl <| bndE h fun v21 e8 h => ARun.qv (t_index rfl rfl rfl e8 rfl rfl) rfl <| ARun.qv (q_load_rptr rfl rfl rfl) rfl <| ARun.qv (q_nilCheck_aptr rfl) rfl <| ARun.qv (t_field_aptr rfl rfl) rfl <| t_store_aptr1 (g := Image.av) (el' := (⟨v11.Version, v21, v11.From, v11.Size⟩ : Image)) rfl rfl rfl rfl e4 rfl .p1 rfl <| ARun.ghost <| ImpX.eqs (s := 3) (av' := .sl 6 b2 0 (v1.1.set v10.1.toNat (⟨v11.Version, v21, v11.From, v11.Size⟩ : Image)).length) rfl (by rw [List.length_set]) <| ImpX.here <| ARun.ghost <| ImpX.eqs (s := 14) (av' := .sl 6 b2 0 (v1.1.set v10.1.toNat (⟨v11.Version, v21, v11.From, v11.Size⟩ : Image)).length) rfl (by rw [List.length_set]) <| ImpX.here <| ARun.ghost <| ImpX.eqs (s := 16) (av' := .sl 6 b2 0 (v1.1.set v10.1.toNat (⟨v11.Version, v21, v11.From, v11.Size⟩ : Image)).length) rfl (by rw [List.length_set]) <| ImpX.here <| rN <| ATodo.stop <| ImpX.lq [0, 0] ⟨v20.2.L, v20.2.at_, v1.1.set v10.1.toNat (⟨v11.Version, v21, v11.From, v11.Size⟩ : Image), h, rfl⟩ rfl rfl
              · refine have h := iteF hc h; tSR <| ARun.qv (q_eql rfl rfl) rfl <| rA rfl rfl <| rN <| ATodo.cut (fun σ' => ∃ (l22 : List Int) (n23 : Int) (l24 : List Image), Stream_Images_j5 l22 n23 l24 = some r ∧ σ' = ⟨80, [(3, .sl 6 b2 0 l24.length)], [(b_0, .cells [.list 1 (l22.map I), I n23]), (b2, .arr 6 (l24.map Image.av))]⟩) ?_ ?_
                · refine ATodo.cond_d rfl (fun hc => ?_) (fun hc => ?_)
                  · exact have h := iteT hc h; tR <| rM rfl rfl <| rM rfl rfl <| ARun.qv (q_nilCheck_aptr rfl) rfl <| ARun.qv (t_field_aptr rfl rfl) rfl <| ARun.qv (t_load_aptr (g := Image.av) rfl rfl (.inl .p1) e4 rfl) rfl <| bndE h fun v25 e9 h => t_call1 rfl (slices_Clone_Range_Range_c e9) (CoL.refl _) .nil (fun _ => rfl) rfl fun b26 => rM rfl rfl <| bndE h fun v27 e10 h => t_call0 rfl (Stream_Version_c e10) (CoL.refl _) (.cons .p1 .nil) rfl rfl <| rM rfl rfl <| bndE h fun v28 e11 h => t_call0 rfl (Stream_Version_c e11) (CoL.refl _) (.cons .p0 .nil) rfl rfl <| ARun.qv (n_build rfl rfl rfl rfl rfl) rfl <| n_buildSliceL (xs := ([(⟨v27.1, v28.1⟩ : Range)]).map Range.av) rfl rfl rfl rfl rfl rfl <| bndE h fun l29 e12 h => t_append (g := Range.av) rfl rfl rfl rfl rfl rfl rfl rfl (.list _) e12 (fun _ => .p1) rfl fun b30 => ARun.qv (q_nilCheck_aptr rfl) rfl <| ARun.qv (t_field_aptr rfl rfl) rfl <| ARun.ghost <| ImpX.freeze .p1 <| ImpX.here <| ARun.ghost <| ImpX.cox (s := 61) (av' := .list 6 (l29.map Range.av)) rfl (.co (Co.froT .p1)) <| ImpX.here <| t_store_aptr1 (g := Image.av) (el' := (⟨v11.Version, v11.Models, l29, v11.Size⟩ : Image)) rfl rfl rfl rfl e4 rfl .p2 rfl <| ARun.ghost <| ImpX.eqs (s := 3) (av' := .sl 6 b2 0 (v1.1.set v10.1.toNat (⟨v11.Version, v11.Models, l29, v11.Size⟩ : Image)).length) rfl (by rw [List.length_set]) <| ImpX.here <| ARun.ghost <| ImpX.eqs (s := 14) (av' := .sl 6 b2 0 (v1.1.set v10.1.toNat (⟨v11.Version, v11.Models, l29, v11.Size⟩ : Image)).length) rfl (by rw [List.length_set]) <| ImpX.here <| ARun.ghost <| ImpX.eqs (s := 16) (av' := .sl 6 b2 0 (v1.1.set v10.1.toNat (⟨v11.Version, v11.Models, l29, v11.Size⟩ : Image)).length) rfl (by rw [List.length_set]) <| ImpX.here <| rN <| ATodo.stop <| ImpX.lq [0, 1] ⟨v28.2.L, v28.2.at_, v1.1.set v10.1.toNat (⟨v11.Version, v11.Models, l29, v11.Size⟩ : Image), h, rfl⟩ rfl rfl
                  · refine have h := iteF hc h; tSR <| ARun.qv (q_eql rfl rfl) rfl <| rA rfl rfl <| rN <| ATodo.cut (fun σ' => ∃ (l31 : List Int) (n32 : Int) (l33 : List Image), Stream_Images_j6 l31 n32 l33 = some r ∧ σ' = ⟨80, [(3, .sl 6 b2 0 l33.length)], [(b_0, .cells [.list 1 (l31.map I), I n32]), (b2, .arr 6 (l33.map Image.av))]⟩) ?_ ?_
                    · refine ATodo.cond_d rfl (fun hc => ?_) (fun hc => ?_)
                      · exact have h := iteT hc h; ATodo.regionM (id := 13) (A := [0, 0, 2, 6, 14, 0, 32, 96, 224, 510, 1022, 2047, 4095, 8191]) 13 mixed rfl (by kernel_rfl) (by kernel_rfl) <| AM.qv (q_move rfl) rfl <| AM.qv (q_move rfl) rfl <| AM.qv (q_nilCheck_aptr rfl) rfl <| AM.qv (t_field_aptr rfl rfl) rfl <| AM.qv (t_load_aptr_part (g := Image.av) rfl rfl (.inl .p1) e4 rfl rfl) rfl <| AM.qv (q_move rfl) rfl <| AM.qv (q_nilCheck_aptr rfl) rfl <| AM.qv (t_field_aptr rfl rfl) rfl <| AM.qv (t_load_aptr_part (g := Image.av) rfl rfl (.inl .p1) e4 rfl rfl) rfl <| AM.qv (n_build rfl rfl rfl rfl rfl) rfl <| AM.buildSliceL (xs := ([(⟨v11.Version, v11.Version⟩ : Range)]).map Range.av) rfl rfl rfl rfl rfl rfl <| AM.qv (q_nilCheck_aptr rfl) rfl <| AM.qv (t_field_aptr rfl rfl) rfl <| AM.nil <| t_store_aptr1 (g := Image.av) (el' := (⟨v11.Version, v11.Models, [(⟨v11.Version, v11.Version⟩ : Range)], v11.Size⟩ : Image)) rfl rfl rfl rfl e4 rfl .p1 rfl <| ARun.ghost <| ImpX.eqs (s := 3) (av' := .sl 6 b2 0 (v1.1.set v10.1.toNat (⟨v11.Version, v11.Models, [(⟨v11.Version, v11.Version⟩ : Range)], v11.Size⟩ : Image)).length) rfl (by rw [List.length_set]) <| ImpX.here <| ARun.ghost <| ImpX.eqs (s := 14) (av' := .sl 6 b2 0 (v1.1.set v10.1.toNat (⟨v11.Version, v11.Models, [(⟨v11.Version, v11.Version⟩ : Range)], v11.Size⟩ : Image)).length) rfl (by rw [List.length_set]) <| ImpX.here <| ARun.ghost <| ImpX.eqs (s := 16) (av' := .sl 6 b2 0 (v1.1.set v10.1.toNat (⟨v11.Version, v11.Models, [(⟨v11.Version, v11.Version⟩ : Range)], v11.Size⟩ : Image)).length) rfl (by rw [List.length_set]) <| ImpX.here <| rN <| ATodo.stop <| ImpX.lq [0, 0] ⟨v12.2.L, v12.2.at_, v1.1.set v10.1.toNat (⟨v11.Version, v11.Models, [(⟨v11.Version, v11.Version⟩ : Range)], v11.Size⟩ : Image), h, rfl⟩ rfl rfl
                      · exact have h := iteF hc h; tR <| rM rfl rfl <| rM rfl rfl <| bndE h fun v34 e13 h => t_call0 rfl (Stream_Odd_c e13) (CoL.refl _) (.cons .p0 .nil) rfl rfl <| ARun.qv (q_nilCheck_aptr rfl) rfl <| ARun.qv (t_field_aptr rfl rfl) rfl <| t_store_aptr1 (g := Image.av) (el' := (⟨v11.Version, v11.Models, v11.From, v34.1⟩ : Image)) rfl rfl rfl rfl e4 rfl .p1 rfl <| ARun.ghost <| ImpX.eqs (s := 3) (av' := .sl 6 b2 0 (v1.1.set v10.1.toNat (⟨v11.Version, v11.Models, v11.From, v34.1⟩ : Image)).length) rfl (by rw [List.length_set]) <| ImpX.here <| ARun.ghost <| ImpX.eqs (s := 14) (av' := .sl 6 b2 0 (v1.1.set v10.1.toNat (⟨v11.Version, v11.Models, v11.From, v34.1⟩ : Image)).length) rfl (by rw [List.length_set]) <| ImpX.here <| ARun.ghost <| ImpX.eqs (s := 16) (av' := .sl 6 b2 0 (v1.1.set v10.1.toNat (⟨v11.Version, v11.Models, v11.From, v34.1⟩ : Image)).length) rfl (by rw [List.length_set]) <| ImpX.here <| rN <| ATodo.stop <| ImpX.lq [0, 0] ⟨v34.2.L, v34.2.at_, v1.1.set v10.1.toNat (⟨v11.Version, v11.Models, v11.From, v34.1⟩ : Image), h, rfl⟩ rfl rfl
                    · rintro σ' ⟨l31, n32, l33, h, rfl⟩
                      unfold Stream_Images_j6 at h
                      exact ATodo.stop <| ImpX.lq [0, 0] ⟨l31, n32, l33, h, rfl⟩ rfl rfl
                · rintro σ' ⟨l22, n23, l24, h, rfl⟩
                  unfold Stream_Images_j5 at h
                  exact ATodo.stop <| ImpX.lq [0, 0] ⟨l22, n23, l24, h, rfl⟩ rfl rfl
            · rintro σ' ⟨l17, n18, l19, h, rfl⟩
              unfold Stream_Images_j4 at h
              exact ATodo.stop <| ImpX.lq [0, 0] ⟨l17, n18, l19, h, rfl⟩ rfl rfl
        · rintro σ' ⟨l13, n14, l15, h, rfl⟩
          unfold Stream_Images_j3 at h
          exact ATodo.blk <| ATodo.stop <| ImpX.lq [0, 0] ⟨l13, n14, l15, h, rfl⟩ rfl rfl
      · exact have h := iteFb hc h; tK <| ATodo.stop <| ImpX.lq [0, 0] ⟨l3, n4, v1.1, h, rfl⟩ rfl rfl
    · rintro σ' ⟨l7, n8, l9, h, rfl⟩
      unfold Stream_Images_j2 at h
      refine tSR <| rM rfl rfl <| rA rfl rfl <| rN <| ATodo.ret <| ?_
      obtain rfl := Option.some.inj h
      exact ImpX.here ⟨_, .cons (.tmp _ _ rfl) .nil, _, .cons .p0 (.cons .p0 .nil), ⟨b2, rfl, rfl⟩⟩

set_option maxHeartbeats 4000000 in
theorem Stream_Some_c [GI : GTab] {b_0 : Bk} {p0x0 : Fleetmake_Stream} {p1x0 : List Str} {r : Str × Fleetmake_Stream} (h : Stream_Some p0x0 p1x0 = some r) : ACall Tryz.prog 25 [.ptr b_0 0, .list 1 (p1x0.map AV.str)] [(b_0, .cells [.list 1 (p0x0.L.map I), I p0x0.at_])] (T0 ([(b_0, .cells [.list 1 (r.2.L.map I), I r.2.at_])]) (.str r.1)) := by
  unfold Stream_Some at h
  refine ACall.lessH ?_
  refine ACall.bodyN Tryz.func25 rfl Tryz.ntmps25 Tryz.results25 rfl rfl ?_
  refine tSR <| rA rfl rfl <| rN <| tSR <| rM rfl rfl <| rM rfl rfl <| rM rfl rfl <| ARun.qv (t_len rfl) rfl <| bndE h fun v1 e1 h => t_call0 rfl (Stream_Next_c e1) (CoL.refl _) (.cons .p0 .nil) rfl rfl <| bndE h fun v2 e2 h => ARun.qv (t_index rfl rfl rfl e2 rfl rfl) rfl <| ARun.qv (q_load_rptr rfl rfl rfl) rfl <| rA rfl rfl <| rN <| ATodo.ret <| ?_
  obtain rfl := Option.some.inj h
  exact ImpX.here ⟨_, .cons (.tmp _ _ rfl) .nil, _, .cons .p0 .nil, ⟨rfl, rfl⟩⟩

set_option maxHeartbeats 4000000 in
theorem base_Out_c [GI : GTab] {p0x0 : Int} {p1x0 : Int} {p2x0 : Int} {r : Bool} (h : base_Out p0x0 p1x0 p2x0 = r) : Pu Tryz.prog 176 [I p0x0, I p1x0, I p2x0] (.bool r) := by
  unfold base_Out at h
  refine ACall.bodyN Tryz.func176 rfl Tryz.ntmps176 Tryz.results176 rfl rfl ?_
  refine tSR <| rA rfl rfl <| rN <| tS <| ATodo.cut (fun σ' => ∃ (c1 : Bool), base_Out_j1 c1 = r ∧ σ' = ⟨15, [(6, .bool c1)], []⟩) ?_ ?_
  · refine tR <| rM rfl rfl <| rM rfl rfl <| ARun.qv (q_lss rfl rfl) rfl <| rM rfl rfl <| ARun.guard_df rfl rfl rfl (fun hc => ?_) (fun hc => ?_)
    · rw [orFd hc] at h
      exact rM rfl rfl <| rY rfl rfl rfl <| rM rfl rfl <| rY rfl rfl rfl <| ARun.qv (q_gtr rfl rfl) rfl <| rE rfl rfl rfl <| rA rfl rfl <| rN <| ATodo.stop <| ImpX.lq [] ⟨decide (p2x0 < p0x0), h, rfl⟩ rfl rfl
    · rw [orTd hc] at h
      exact rG rfl rfl rfl rfl <| rG rfl rfl rfl rfl <| rT rfl rfl rfl <| rA rfl rfl <| rN <| ATodo.stop <| ImpX.lq [] ⟨true, h, rfl⟩ rfl rfl
  · rintro σ' ⟨c1, h, rfl⟩
    unfold base_Out_j1 at h
    refine ATodo.ret <| ?_
    obtain rfl := h
    exact ImpX.here ⟨_, .cons (.tmp _ _ rfl) .nil, rfl⟩

set_option maxHeartbeats 4000000 in
theorem base_Version_c [GI : GTab] {p0x0 : Version} {r : Bool} (h : base_Version p0x0 = r) : Pu Tryz.prog 138 [.agg [I p0x0.Major, I p0x0.Minor, I p0x0.Patch]] (.bool r) := by
  unfold base_Version at h
  refine ACall.bodyN Tryz.func138 rfl Tryz.ntmps138 Tryz.results138 rfl rfl ?_
  refine tSR <| n_box rfl rfl rfl rfl fun b1 => rA rfl rfl <| rN <| tS <| ATodo.cut (fun σ' => ∃ (c2 : Bool), base_Version_j1 c2 = r ∧ σ' = ⟨19, [(2, .bool c2)], []⟩) ?_ ?_
  · refine tR <| rF rfl rfl rfl <| rL rfl rfl .p0 rfl rfl <| r_callp rfl (base_Out_c rfl) (CoL.refl _) rfl <| ARun.qv (q_not rfl) rfl <| rM rfl rfl <| ARun.guard rfl rfl rfl (fun hc => ?_) (fun hc => ?_)
    · rw [andTb hc] at h
      refine rF rfl rfl rfl <| rY rfl rfl rfl <| rL rfl rfl .p0 rfl rfl <| rY rfl rfl rfl <| r_callp rfl (base_Out_c rfl) (CoL.refl _) rfl <| rY rfl rfl rfl <| ARun.qv (q_not rfl) rfl <| rT rfl rfl rfl <| rM rfl rfl <| ARun.guard rfl rfl rfl (fun hc => ?_) (fun hc => ?_)
      · rw [andTb hc] at h
        exact rF rfl rfl rfl <| rY rfl rfl rfl <| rL rfl rfl .p0 rfl rfl <| rY rfl rfl rfl <| r_callp rfl (base_Out_c rfl) (CoL.refl _) rfl <| rY rfl rfl rfl <| ARun.qv (q_not rfl) rfl <| rT rfl rfl rfl <| rA rfl rfl <| rN <| ATodo.stop <| ImpX.lq [] ⟨!(base_Out p0x0.Patch (0 : Int) (9999 : Int)), h, rfl⟩ rfl rfl
      · rw [andFb hc] at h
        exact rG rfl rfl rfl rfl <| rG rfl rfl rfl rfl <| rG rfl rfl rfl rfl <| rE rfl rfl rfl <| rA rfl rfl <| rN <| ATodo.stop <| ImpX.lq [] ⟨false, h, rfl⟩ rfl rfl
    · rw [andFb hc] at h
      exact rG rfl rfl rfl rfl <| rG rfl rfl rfl rfl <| rG rfl rfl rfl rfl <| rE rfl rfl rfl <| rM rfl rfl <| rG rfl rfl rfl rfl <| rG rfl rfl rfl rfl <| rG rfl rfl rfl rfl <| rG rfl rfl rfl rfl <| rE rfl rfl rfl <| rA rfl rfl <| rN <| ATodo.stop <| ImpX.lq [] ⟨false, h, rfl⟩ rfl rfl
  · rintro σ' ⟨c2, h, rfl⟩
    unfold base_Version_j1 at h
    refine ATodo.ret <| ?_
    obtain rfl := h
    exact ImpX.here ⟨_, .cons (.tmp _ _ rfl) .nil, rfl⟩

set_option maxHeartbeats 4000000 in
theorem cmp_Or_int_c [GI : GTab] {p0x0 : List Int} {r : Int} (h : cmp_Or_int p0x0 = some r) : Pu Tryz.prog 152 [.list 1 (p0x0.map I)] (I r) := by
  unfold cmp_Or_int at h
  refine ACall.bodyN Tryz.func152 rfl Tryz.ntmps152 Tryz.results152 rfl rfl ?_
  refine tSR <| rA rfl rfl <| rN <| tSR <| rA rfl rfl <| rN <| tS <| tSR <| rM rfl rfl <| ARun.qv (t_len rfl) rfl <| rM rfl rfl <| rN <| ATodo.block <| ATodo.loopI (fun x : Int => cmp_Or_int_b1 p0x0 x) (fun x σ' => σ' = ⟨18, [(3, I (0 : Int)), (6, .list 1 (p0x0.map I)), (7, I (p0x0.length : Int)), (8, I x)], []⟩) h ?_ ?_
  · exact ImpX.lq [] rfl rfl rfl
  · intro n2 z1 σ' J1 hmk h hJ1 hA1
    obtain rfl := hmk
    replace h : cmp_Or_int_b1 p0x0 n2 = some z1 := h
    unfold cmp_Or_int_b1 at h
    refine tSR <| ARun.qv (q_lss rfl rfl) rfl <| rN <| tS <| ATodo.cond_d rfl (fun hc => ?_) (fun hc => ?_)
    · refine have h := iteT hc h; tK <| tS <| ATodo.block <| tSR <| bndE h fun v3 e1 h => ARun.qv (t_index rfl rfl rfl e1 rfl rfl) rfl <| ARun.qv (q_load_rptr rfl rfl rfl) rfl <| rA rfl rfl <| rN <| tSR <| rM rfl rfl <| rM rfl rfl <| ARun.qv (q_neq rfl rfl) rfl <| rN <| ATodo.cond_d rfl (fun hc => ?_) (fun hc => ?_)
      · refine have h := iteT hc h; tSR <| rM rfl rfl <| rA rfl rfl <| rN <| ATodo.ret <| have h := outL h hA1; ?_
        obtain rfl := Option.some.inj h
        exact ImpX.here ⟨_, .cons (.tmp _ _ rfl) .nil, rfl⟩
      · refine have h := iteF hc h; tK <| ATodo.blk <| tR <| ARun.qv (q_addw rfl rfl) rfl <| rM rfl rfl <| rN <| ATodo.stop <| ?_
        obtain rfl := Option.some.inj h
        exact hJ1 _ _ rfl <| ImpX.lq [] rfl rfl rfl
    · refine have h := iteF hc h; ATodo.exit rfl <| have h := outL h hA1; tSR <| rM rfl rfl <| rA rfl rfl <| rN <| ATodo.ret <| ?_
      obtain rfl := Option.some.inj h
      exact ImpX.here ⟨_, .cons (.tmp _ _ rfl) .nil, rfl⟩

set_option maxHeartbeats 4000000 in
theorem campaign_Compare_c [GI : GTab] {p0x0 : Version} {p1x0 : Version} {r : Int} (h : campaign_Compare p0x0 p1x0 = some r) : Pu Tryz.prog 108 [.agg [I p0x0.Major, I p0x0.Minor, I p0x0.Patch], .agg [I p1x0.Major, I p1x0.Minor, I p1x0.Patch]] (I r) := by
  unfold campaign_Compare at h
  refine ACall.bodyN Tryz.func108 rfl Tryz.ntmps108 Tryz.results108 rfl rfl ?_
  refine tSR <| n_box rfl rfl rfl rfl fun b1 => n_box rfl rfl rfl rfl fun b2 => rA rfl rfl <| rN <| tS <| ATodo.regionM (id := 1) (A := [0, 1, 0, 4, 15, 0, 32, 0, 128, 511, 0, 1024, 0, 4096, 16383, 32767, 65535, 131071]) 18 mixed rfl (by kernel_rfl) (by kernel_rfl) <| AM.qv (n_field_ptr rfl rfl) rfl <| AM.qv (q_load_ptr rfl rfl .p1 rfl) rfl <| AM.qv (n_field_ptr rfl rfl) rfl <| AM.qv (q_load_ptr rfl rfl .p0 rfl) rfl <| AM.callp rfl (cmp_Compare_int_c rfl) (CoL.refl _) rfl <| AM.qv (n_field_ptr rfl rfl) rfl <| AM.qv (q_load_ptr rfl rfl .p1 rfl) rfl <| AM.qv (n_field_ptr rfl rfl) rfl <| AM.qv (q_load_ptr rfl rfl .p0 rfl) rfl <| AM.callp rfl (cmp_Compare_int_c rfl) (CoL.refl _) rfl <| AM.qv (n_field_ptr rfl rfl) rfl <| AM.qv (q_load_ptr rfl rfl .p1 rfl) rfl <| AM.qv (n_field_ptr rfl rfl) rfl <| AM.qv (q_load_ptr rfl rfl .p0 rfl) rfl <| AM.callp rfl (cmp_Compare_int_c rfl) (CoL.refl _) rfl <| AM.buildSliceL (xs := ([(cmp_Compare_int p0x0.Major p1x0.Major), (cmp_Compare_int p0x0.Minor p1x0.Minor), (cmp_Compare_int p0x0.Patch p1x0.Patch)] : List Int).map I) rfl rfl rfl rfl rfl rfl <| bndE h fun v3 e1 h => AM.callp rfl (cmp_Or_int_c e1) (CoL.refl _) rfl <| AM.qv (q_assign rfl) rfl <| AM.nil <| rN <| ATodo.ret <| ?_
  obtain rfl := Option.some.inj h
  exact ImpX.here ⟨_, .cons (.tmp _ _ rfl) .nil, rfl⟩

set_option maxHeartbeats 4000000 in
theorem base_Key_c [GI : GTab] {p0x0 : Str} {r : Bool} (h : base_Key p0x0 = some r) : Pu Tryz.prog 141 [.str p0x0] (.bool r) := by
  unfold base_Key at h
  refine ACall.bodyN Tryz.func141 rfl Tryz.ntmps141 Tryz.results141 rfl rfl ?_
  refine tSR <| rA rfl rfl <| rN <| tS <| tS <| ATodo.cut (fun σ' => ∃ (c1 : Bool), base_Key_j1 p0x0 c1 = some r ∧ σ' = ⟨54, [(0, .str p0x0), (21, .bool c1)], []⟩) ?_ ?_
  · refine tR <| rM rfl rfl <| ARun.qv (q_seq rfl rfl) rfl <| rM rfl rfl <| ARun.guard_df rfl rfl rfl (fun hc => ?_) (fun hc => ?_)
    · refine have h := iteF hc h; rM rfl rfl <| rY rfl rfl rfl <| ARun.qv (q_len_str rfl) rfl <| rY rfl rfl rfl <| ARun.qv (q_gtr rfl rfl) rfl <| rE rfl rfl rfl <| rM rfl rfl <| ARun.guard_df rfl rfl rfl (fun hc => ?_) (fun hc => ?_)
      · refine have h := iteF hc h; rM rfl rfl <| rY rfl rfl rfl <| bndE h fun c2 e1 h => ARun.qv (t_index_str rfl rfl e1) rfl <| rY rfl rfl rfl <| ARun.qv (q_lss rfl rfl) rfl <| rE rfl rfl rfl <| rM rfl rfl <| ARun.guard_df rfl rfl rfl (fun hc => ?_) (fun hc => ?_)
        · exact have h := iteF hc h; rM rfl rfl <| rY rfl rfl rfl <| bndE h fun c3 e2 h => ARun.qv (t_index_str rfl rfl e2) rfl <| rY rfl rfl rfl <| ARun.qv (q_gtr rfl rfl) rfl <| rE rfl rfl rfl <| rN <| ATodo.stop <| ImpX.lq [] ⟨decide ((122 : Int) < (c3.toNat : Int)), h, rfl⟩ rfl rfl
        · exact have h := iteT hc h; rG rfl rfl rfl rfl <| rG rfl rfl rfl rfl <| rT rfl rfl rfl <| rN <| ATodo.stop <| ImpX.lq [] ⟨true, h, rfl⟩ rfl rfl
      · exact have h := iteT hc h; rG rfl rfl rfl rfl <| rG rfl rfl rfl rfl <| rT rfl rfl rfl <| rM rfl rfl <| rG rfl rfl rfl rfl <| rG rfl rfl rfl rfl <| rG rfl rfl rfl rfl <| rT rfl rfl rfl <| rN <| ATodo.stop <| ImpX.lq [] ⟨true, h, rfl⟩ rfl rfl
    · exact have h := iteT hc h; rG rfl rfl rfl rfl <| rG rfl rfl rfl rfl <| rT rfl rfl rfl <| rM rfl rfl <| rG rfl rfl rfl rfl <| rG rfl rfl rfl rfl <| rG rfl rfl rfl rfl <| rT rfl rfl rfl <| rM rfl rfl <| rG rfl rfl rfl rfl <| rG rfl rfl rfl rfl <| rG rfl rfl rfl rfl <| rT rfl rfl rfl <| rN <| ATodo.stop <| ImpX.lq [] ⟨true, h, rfl⟩ rfl rfl
  · rintro σ' ⟨c1, h, rfl⟩
    unfold base_Key_j1 at h
    refine ATodo.cond rfl (fun hc => ?_) (fun hc => ?_)
    · refine have h := iteT hc h; tSR <| rA rfl rfl <| rN <| ATodo.ret <| ?_
      obtain rfl := Option.some.inj h
      exact ImpX.here ⟨_, .cons (.tmp _ _ rfl) .nil, rfl⟩
    · refine have h := iteFb hc h; tK <| tS <| tSR <| rM rfl rfl <| ARun.qv (q_len_str rfl) rfl <| rM rfl rfl <| rN <| ATodo.block <| ATodo.loopI (fun x : Int => base_Key_b1 p0x0 x) (fun x σ' => σ' = ⟨54, [(0, .str p0x0), (23, I (p0x0.length : Int)), (24, I x)], []⟩) h ?_ ?_
      · exact ImpX.lq [] rfl rfl rfl
      · intro n5 z1 σ' J1 hmk h hJ1 hA1
        obtain rfl := hmk
        replace h : base_Key_b1 p0x0 n5 = some z1 := h
        unfold base_Key_b1 at h
        refine tSR <| ARun.qv (q_lss rfl rfl) rfl <| rN <| tS <| ATodo.cond_d rfl (fun hc => ?_) (fun hc => ?_)
        · refine have h := iteT hc h; tK <| tS <| ATodo.block <| tSR <| rM rfl rfl <| rA rfl rfl <| rN <| tSR <| rM rfl rfl <| rM rfl rfl <| bndE h fun c6 e3 h => ARun.qv (t_index_str rfl rfl e3) rfl <| rA rfl rfl <| rN <| tS <| ATodo.cut (fun σ' => ∃ (c7 : Bool), base_Key_j2 n5 c7 = some z1 ∧ σ' = ⟨54, [(0, .str p0x0), (23, I (p0x0.length : Int)), (24, I n5), (52, .bool c7)], []⟩) ?_ ?_
          · refine tR <| rM rfl rfl <| ARun.qv (q_geq rfl rfl) rfl <| rM rfl rfl <| ARun.guard_dt rfl rfl rfl (fun hc => ?_) (fun hc => ?_)
            · rw [if_pos hc] at h
              refine rM rfl rfl <| rY rfl rfl rfl <| ARun.qv (q_leq rfl rfl) rfl <| rT rfl rfl rfl <| rM rfl rfl <| ARun.guard_df rfl rfl rfl (fun hc => ?_) (fun hc => ?_)
              · rw [if_neg hc] at h
                refine rM rfl rfl <| rY rfl rfl rfl <| ARun.qv (q_geq rfl rfl) rfl <| rY rfl rfl rfl <| rM rfl rfl <| ARun.guard_dt rfl rfl rfl (fun hc => ?_) (fun hc => ?_)
                · rw [if_pos hc] at h
                  refine rM rfl rfl <| rY rfl rfl rfl <| ARun.qv (q_leq rfl rfl) rfl <| rY rfl rfl rfl <| rT rfl rfl rfl <| rE rfl rfl rfl <| rM rfl rfl <| ARun.guard_df rfl rfl rfl (fun hc => ?_) (fun hc => ?_)
                  · rw [if_neg hc] at h
                    refine rM rfl rfl <| rY rfl rfl rfl <| ARun.qv (q_eql rfl rfl) rfl <| rE rfl rfl rfl <| rM rfl rfl <| ARun.guard_df rfl rfl rfl (fun hc => ?_) (fun hc => ?_)
                    · rw [if_neg hc] at h
                      exact rM rfl rfl <| rY rfl rfl rfl <| ARun.qv (q_eql rfl rfl) rfl <| rE rfl rfl rfl <| ARun.qv (q_not_d rfl) rfl <| rN <| ATodo.stop <| ImpX.lq [] ⟨decide (¬ ((c6.toNat : Int) = (95 : Int))), h, rfl⟩ rfl rfl
                    · rw [if_pos hc] at h
                      exact rG rfl rfl rfl rfl <| rT rfl rfl rfl <| ARun.qv (q_not rfl) rfl <| rN <| ATodo.stop <| ImpX.lq [] ⟨!true, h, rfl⟩ rfl rfl
                  · rw [if_pos hc] at h
                    exact rG rfl rfl rfl rfl <| rT rfl rfl rfl <| rM rfl rfl <| rG rfl rfl rfl rfl <| rG rfl rfl rfl rfl <| rT rfl rfl rfl <| ARun.qv (q_not rfl) rfl <| rN <| ATodo.stop <| ImpX.lq [] ⟨!true, h, rfl⟩ rfl rfl
                · rw [if_neg hc] at h
                  refine rG rfl rfl rfl rfl <| rY rfl rfl rfl <| rE rfl rfl rfl <| rE rfl rfl rfl <| rM rfl rfl <| rY rfl rfl rfl <| rM rfl rfl <| rY rfl rfl rfl <| ARun.qv (q_eql rfl rfl) rfl <| rE rfl rfl rfl <| rM rfl rfl <| ARun.guard_df rfl rfl rfl (fun hc => ?_) (fun hc => ?_)
                  · rw [if_neg hc] at h
                    exact rM rfl rfl <| rY rfl rfl rfl <| ARun.qv (q_eql rfl rfl) rfl <| rE rfl rfl rfl <| ARun.qv (q_not_d rfl) rfl <| rN <| ATodo.stop <| ImpX.lq [] ⟨decide (¬ ((c6.toNat : Int) = (95 : Int))), h, rfl⟩ rfl rfl
                  · rw [if_pos hc] at h
                    exact rG rfl rfl rfl rfl <| rT rfl rfl rfl <| ARun.qv (q_not rfl) rfl <| rN <| ATodo.stop <| ImpX.lq [] ⟨!true, h, rfl⟩ rfl rfl
              · rw [if_pos hc] at h
                exact rG rfl rfl rfl rfl <| rG rfl rfl rfl rfl <| ARun.guard_und rfl rfl rfl <| ARun.guard_und rfl rfl rfl <| rG rfl rfl rfl rfl <| rT rfl rfl rfl <| rM rfl rfl <| rG rfl rfl rfl rfl <| rG rfl rfl rfl rfl <| rT rfl rfl rfl <| rM rfl rfl <| rG rfl rfl rfl rfl <| rG rfl rfl rfl rfl <| rT rfl rfl rfl <| ARun.qv (q_not rfl) rfl <| rN <| ATodo.stop <| ImpX.lq [] ⟨!true, h, rfl⟩ rfl rfl
            · rw [if_neg hc] at h
              refine rG rfl rfl rfl rfl <| rE rfl rfl rfl <| rM rfl rfl <| rY rfl rfl rfl <| rM rfl rfl <| rY rfl rfl rfl <| ARun.qv (q_geq rfl rfl) rfl <| rY rfl rfl rfl <| rM rfl rfl <| ARun.guard_dt rfl rfl rfl (fun hc => ?_) (fun hc => ?_)
              · rw [if_pos hc] at h
                refine rM rfl rfl <| rY rfl rfl rfl <| ARun.qv (q_leq rfl rfl) rfl <| rY rfl rfl rfl <| rT rfl rfl rfl <| rE rfl rfl rfl <| rM rfl rfl <| ARun.guard_df rfl rfl rfl (fun hc => ?_) (fun hc => ?_)
                · rw [if_neg hc] at h
                  refine rM rfl rfl <| rY rfl rfl rfl <| ARun.qv (q_eql rfl rfl) rfl <| rE rfl rfl rfl <| rM rfl rfl <| ARun.guard_df rfl rfl rfl (fun hc => ?_) (fun hc => ?_)
                  · rw [if_neg hc] at h
                    exact rM rfl rfl <| rY rfl rfl rfl <| ARun.qv (q_eql rfl rfl) rfl <| rE rfl rfl rfl <| ARun.qv (q_not_d rfl) rfl <| rN <| ATodo.stop <| ImpX.lq [] ⟨decide (¬ ((c6.toNat : Int) = (95 : Int))), h, rfl⟩ rfl rfl
                  · rw [if_pos hc] at h
                    exact rG rfl rfl rfl rfl <| rT rfl rfl rfl <| ARun.qv (q_not rfl) rfl <| rN <| ATodo.stop <| ImpX.lq [] ⟨!true, h, rfl⟩ rfl rfl
                · rw [if_pos hc] at h
                  exact rG rfl rfl rfl rfl <| rT rfl rfl rfl <| rM rfl rfl <| rG rfl rfl rfl rfl <| rG rfl rfl rfl rfl <| rT rfl rfl rfl <| ARun.qv (q_not rfl) rfl <| rN <| ATodo.stop <| ImpX.lq [] ⟨!true, h, rfl⟩ rfl rfl
              · rw [if_neg hc] at h
                refine rG rfl rfl rfl rfl <| rY rfl rfl rfl <| rE rfl rfl rfl <| rE rfl rfl rfl <| rM rfl rfl <| rY rfl rfl rfl <| rM rfl rfl <| rY rfl rfl rfl <| ARun.qv (q_eql rfl rfl) rfl <| rE rfl rfl rfl <| rM rfl rfl <| ARun.guard_df rfl rfl rfl (fun hc => ?_) (fun hc => ?_)
                · rw [if_neg hc] at h
                  exact rM rfl rfl <| rY rfl rfl rfl <| ARun.qv (q_eql rfl rfl) rfl <| rE rfl rfl rfl <| ARun.qv (q_not_d rfl) rfl <| rN <| ATodo.stop <| ImpX.lq [] ⟨decide (¬ ((c6.toNat : Int) = (95 : Int))), h, rfl⟩ rfl rfl
                · rw [if_pos hc] at h
                  exact rG rfl rfl rfl rfl <| rT rfl rfl rfl <| ARun.qv (q_not rfl) rfl <| rN <| ATodo.stop <| ImpX.lq [] ⟨!true, h, rfl⟩ rfl rfl
          · rintro σ' ⟨c7, h, rfl⟩
            unfold base_Key_j2 at h
            refine ATodo.cond rfl (fun hc => ?_) (fun hc => ?_)
            · refine have h := iteT hc h; tSR <| rA rfl rfl <| rN <| ATodo.ret <| have h := outL h hA1; ?_
              obtain rfl := Option.some.inj h
              exact ImpX.here ⟨_, .cons (.tmp _ _ rfl) .nil, rfl⟩
            · refine have h := iteFb hc h; tK <| ATodo.blk <| tR <| ARun.qv (q_addw rfl rfl) rfl <| rM rfl rfl <| rN <| ATodo.stop <| ?_
              obtain rfl := Option.some.inj h
              exact hJ1 _ _ rfl <| ImpX.lq [] rfl rfl rfl
        · refine have h := iteF hc h; ATodo.exit rfl <| have h := outL h hA1; tSR <| rA rfl rfl <| rN <| ATodo.ret <| ?_
          obtain rfl := Option.some.inj h
          exact ImpX.here ⟨_, .cons (.tmp _ _ rfl) .nil, rfl⟩

set_option maxHeartbeats 4000000 in
theorem campaign_covers_1x_c [GI : GTab] {p0x0 : Range} {p1x0 : Version} {r : Bool} (h : campaign_covers_1x p0x0 p1x0 = some r) : Pu Tryz.prog 217 [.agg [I p0x0.Low.Major, I p0x0.Low.Minor, I p0x0.Low.Patch, I p0x0.High.Major, I p0x0.High.Minor, I p0x0.High.Patch], .rptr [I p1x0.Major, I p1x0.Minor, I p1x0.Patch]] (.bool r) := by
  unfold campaign_covers_1x at h
  refine ACall.bodyN Tryz.func217 rfl Tryz.ntmps217 Tryz.results217 rfl rfl ?_
  refine tSR <| n_box rfl rfl rfl rfl fun b1 => rA rfl rfl <| rN <| tS <| ATodo.cut (fun σ' => ∃ (c2 : Bool), campaign_covers_1x_j1 c2 = some r ∧ σ' = ⟨16, [(3, .bool c2)], []⟩) ?_ ?_
  · refine tR <| rF rfl rfl rfl <| ARun.qv (n_load_ptr_part rfl rfl .p0 rfl rfl) rfl <| ARun.qv (q_load_rptr_agg rfl rfl rfl) rfl <| bndE h fun v3 e1 h => r_callp rfl (campaign_Compare_c e1) (CoL.refl _) rfl <| ARun.qv (q_leq rfl rfl) rfl <| rM rfl rfl <| ARun.guard_dt rfl rfl rfl (fun hc => ?_) (fun hc => ?_)
    · exact have h := iteT hc h; ARun.qv (q_load_rptr_agg rfl rfl rfl) rfl <| rY rfl rfl rfl <| rF rfl rfl rfl <| rY rfl rfl rfl <| ARun.qv (n_load_ptr_part rfl rfl .p0 rfl rfl) rfl <| rY rfl rfl rfl <| bndE h fun v4 e2 h => r_callp rfl (campaign_Compare_c e2) (CoL.refl _) rfl <| rY rfl rfl rfl <| ARun.qv (q_leq rfl rfl) rfl <| rT rfl rfl rfl <| rA rfl rfl <| rN <| ATodo.stop <| ImpX.lq [] ⟨decide (v4 ≤ (0 : Int)), h, rfl⟩ rfl rfl
    · exact have h := iteF hc h; rG rfl rfl rfl rfl <| rG rfl rfl rfl rfl <| rG rfl rfl rfl rfl <| rG rfl rfl rfl rfl <| rE rfl rfl rfl <| rA rfl rfl <| rN <| ATodo.stop <| ImpX.lq [] ⟨false, h, rfl⟩ rfl rfl
  · rintro σ' ⟨c2, h, rfl⟩
    unfold campaign_covers_1x_j1 at h
    refine ATodo.ret <| ?_
    obtain rfl := Option.some.inj h
    exact ImpX.here ⟨_, .cons (.tmp _ _ rfl) .nil, rfl⟩

set_option maxHeartbeats 4000000 in
theorem slices_IndexFunc_Range_Range_c [GI : GTab] {p0x0 : List Range} {fnb : Range → Option Bool} {fnb_F : FuncId} [IsFn Tryz.prog fnb_F] {fnb_C : List AV} (fnb_h : ∀ {y0 : _} {u : Bool}, fnb y0 = some u → Pu Tryz.prog fnb_F (.agg [I y0.Low.Major, I y0.Low.Minor, I y0.Low.Patch, I y0.High.Major, I y0.High.Minor, I y0.High.Patch] ::  fnb_C) (.bool u)) {r : Int} (h : slices_IndexFunc_Range_Range p0x0 fnb = some r) : Pu Tryz.prog 227 [.list 6 (p0x0.map Range.av), .func (.func fnb_F) fnb_C] (I r) := by
  unfold slices_IndexFunc_Range_Range at h
  refine ACall.bodyN Tryz.func227 rfl Tryz.ntmps227 Tryz.results227 rfl rfl ?_
  refine tSR <| rA rfl rfl <| rN <| tS <| tSR <| rM rfl rfl <| ARun.qv (t_len rfl) rfl <| rM rfl rfl <| rN <| ATodo.block <| ATodo.loopI (fun x : Int => slices_IndexFunc_Range_Range_b1 p0x0 fnb x) (fun x σ' => σ' = ⟨19, [(0, .list 6 (p0x0.map Range.av)), (1, .func (.func fnb_F) fnb_C), (7, I (p0x0.length : Int)), (8, I x)], []⟩) h ?_ ?_
  · exact ImpX.lq [] rfl rfl rfl
  · intro n2 z1 σ' J1 hmk h hJ1 hA1
    obtain rfl := hmk
    replace h : slices_IndexFunc_Range_Range_b1 p0x0 fnb n2 = some z1 := h
    unfold slices_IndexFunc_Range_Range_b1 at h
    refine tSR <| ARun.qv (q_lss rfl rfl) rfl <| rN <| tS <| ATodo.cond_d rfl (fun hc => ?_) (fun hc => ?_)
    · refine have h := iteT hc h; tK <| tS <| ATodo.block <| tSR <| rM rfl rfl <| rA rfl rfl <| rN <| tSR <| rM rfl rfl <| rM rfl rfl <| rM rfl rfl <| bndE h fun v3 e1 h => ARun.qv (t_index rfl rfl rfl e1 rfl rfl) rfl <| ARun.qv (q_load_rptr_agg rfl rfl rfl) rfl <| bndE h fun v4 e2 h => r_callvp rfl rfl (fnb_h e2) (CoL.refl _) rfl <| rN <| ATodo.cond rfl (fun hc => ?_) (fun hc => ?_)
      · refine have h := iteT hc h; tSR <| rM rfl rfl <| rA rfl rfl <| rN <| ATodo.ret <| have h := outL h hA1; ?_
        obtain rfl := Option.some.inj h
        exact ImpX.here ⟨_, .cons (.tmp _ _ rfl) .nil, rfl⟩
      · refine have h := iteFb hc h; tK <| ATodo.blk <| tR <| ARun.qv (q_addw rfl rfl) rfl <| rM rfl rfl <| rN <| ATodo.stop <| ?_
        obtain rfl := Option.some.inj h
        exact hJ1 _ _ rfl <| ImpX.lq [] rfl rfl rfl
    · refine have h := iteF hc h; ATodo.exit rfl <| have h := outL h hA1; tSR <| rA rfl rfl <| rN <| ATodo.ret <| ?_
      obtain rfl := Option.some.inj h
      exact ImpX.here ⟨_, .cons (.tmp _ _ rfl) .nil, rfl⟩

set_option maxHeartbeats 4000000 in
theorem slices_ContainsFunc_Range_Range_c [GI : GTab] {p0x0 : List Range} {fnb : Range → Option Bool} {fnb_F : FuncId} [IsFn Tryz.prog fnb_F] {fnb_C : List AV} (fnb_h : ∀ {y0 : _} {u : Bool}, fnb y0 = some u → Pu Tryz.prog fnb_F (.agg [I y0.Low.Major, I y0.Low.Minor, I y0.Low.Patch, I y0.High.Major, I y0.High.Minor, I y0.High.Patch] ::  fnb_C) (.bool u)) {r : Bool} (h : slices_ContainsFunc_Range_Range p0x0 fnb = some r) : Pu Tryz.prog 171 [.list 6 (p0x0.map Range.av), .func (.func fnb_F) fnb_C] (.bool r) := by
  unfold slices_ContainsFunc_Range_Range at h
  refine ACall.bodyN Tryz.func171 rfl Tryz.ntmps171 Tryz.results171 rfl rfl ?_
  refine tSR <| rA rfl rfl <| rN <| tSR <| rM rfl rfl <| rM rfl rfl <| bndE h fun v1 e1 h => r_callpB rfl (slices_IndexFunc_Range_Range_c fnb_h e1) (.cons (.co (.refl _)) (.cons (.co (.refl _)) .nil)) rfl rfl <| ARun.qv (q_geq rfl rfl) rfl <| rA rfl rfl <| rN <| ATodo.ret <| ?_
  obtain rfl := Option.some.inj h
  exact ImpX.here ⟨_, .cons (.tmp _ _ rfl) .nil, rfl⟩

set_option maxHeartbeats 4000000 in
theorem campaign_covers_c [GI : GTab] {p0x0 : Image} {p1x0 : Version} {r : Bool} (h : campaign_covers p0x0 p1x0 = some r) : Pu Tryz.prog 162 [.agg [I p0x0.Version.Major, I p0x0.Version.Minor, I p0x0.Version.Patch, .list 1 (p0x0.Models.map AV.str), .list 6 (p0x0.From.map Range.av), I p0x0.Size], .agg [I p1x0.Major, I p1x0.Minor, I p1x0.Patch]] (.bool r) := by
  unfold campaign_covers at h
  refine ACall.bodyN Tryz.func162 rfl Tryz.ntmps162 Tryz.results162 rfl rfl ?_
  refine tSR <| n_box rfl rfl rfl rfl fun b1 => n_box rfl rfl rfl rfl fun b2 => rA rfl rfl <| rN <| tSR <| rF rfl rfl rfl <| rL rfl rfl .p1 rfl rfl <| ARun.qv (q_makeFunc rfl) rfl <| bndE h fun v3 e1 h => r_callpB rfl (slices_ContainsFunc_Range_Range_c (fun e => campaign_covers_1x_c e) e1) (.cons (.co (.refl _)) (.cons (.funcL _ _ _ (.cons (.boxL _ _ _ .p0 (.cons (.co (.refl _)) (.cons (.co (.refl _)) (.cons (.co (.refl _)) .nil)))) .nil)) .nil)) rfl rfl <| rA rfl rfl <| rN <| ATodo.ret <| ?_
  obtain rfl := Option.some.inj h
  exact ImpX.here ⟨_, .cons (.tmp _ _ rfl) .nil, rfl⟩

set_option maxHeartbeats 4000000 in
theorem campaign_rangesFault_c [GI : GTab] {p0x0 : Image} {r : Int} (h : campaign_rangesFault p0x0 = some r) : Pu Tryz.prog 216 [.agg [I p0x0.Version.Major, I p0x0.Version.Minor, I p0x0.Version.Patch, .list 1 (p0x0.Models.map AV.str), .list 6 (p0x0.From.map Range.av), I p0x0.Size]] (I r) := by
  unfold campaign_rangesFault at h
  refine ACall.bodyN Tryz.func216 rfl Tryz.ntmps216 Tryz.results216 rfl rfl ?_
  refine tSR <| n_box rfl rfl rfl rfl fun b1 => rA rfl rfl <| rN <| tS <| tSR <| rF rfl rfl rfl <| rL rfl rfl .p0 rfl rfl <| ARun.qv (t_len rfl) rfl <| ARun.qv (q_gtr rfl rfl) rfl <| rN <| ATodo.cond_d rfl (fun hc => ?_) (fun hc => ?_)
  · refine have h := iteT hc h; tSR <| rA rfl rfl <| rN <| ATodo.ret <| ?_
    obtain rfl := Option.some.inj h
    exact ImpX.here ⟨_, .cons (.tmp _ _ rfl) .nil, rfl⟩
  · refine have h := iteF hc h; tK <| tS <| tSR <| rF rfl rfl rfl <| rL rfl rfl .p0 rfl rfl <| ARun.qv (t_len rfl) rfl <| rM rfl rfl <| rN <| ATodo.block <| ATodo.loopI (fun x : Int => campaign_rangesFault_b1 p0x0 x) (fun x σ' => σ' = ⟨57, [(1, .ptr b1 0), (10, .list 6 (p0x0.From.map Range.av)), (11, I (p0x0.From.length : Int)), (12, I x)], [(b1, .cells [I p0x0.Version.Major, I p0x0.Version.Minor, I p0x0.Version.Patch, .list 1 (p0x0.Models.map AV.str), .list 6 (p0x0.From.map Range.av), I p0x0.Size])]⟩) h ?_ ?_
    · exact ImpX.lq [0] rfl rfl rfl
    · intro n3 z1 σ' J1 hmk h hJ1 hA1
      obtain rfl := hmk
      replace h : campaign_rangesFault_b1 p0x0 n3 = some z1 := h
      unfold campaign_rangesFault_b1 at h
      refine tSR <| ARun.qv (q_lss rfl rfl) rfl <| rN <| tS <| ATodo.cond_d rfl (fun hc => ?_) (fun hc => ?_)
      · refine have h := iteT hc h; tK <| tS <| ATodo.block <| tSR <| rM rfl rfl <| bndE h fun v4 e1 h => ARun.qv (t_index rfl rfl rfl e1 rfl rfl) rfl <| ARun.qv (q_load_rptr_agg rfl rfl rfl) rfl <| n_alloc rfl rfl rfl rfl fun b5 => rA rfl rfl <| n_store_ptr rfl rfl rfl rfl .p0 rfl rfl <| rN <| ATodo.block <| tS <| ATodo.cut (fun σ' => ∃ (c6 : Bool), campaign_rangesFault_j1 p0x0 n3 v4 c6 = some z1 ∧ σ' = ⟨57, [(1, .ptr b1 0), (3, I n3), (4, .ptr b5 0), (10, .list 6 (p0x0.From.map Range.av)), (11, I (p0x0.From.length : Int)), (12, I n3), (17, .bool c6)], [(b1, .cells [I p0x0.Version.Major, I p0x0.Version.Minor, I p0x0.Version.Patch, .list 1 (p0x0.Models.map AV.str), .list 6 (p0x0.From.map Range.av), I p0x0.Size]), (b5, .cells [I v4.Low.Major, I v4.Low.Minor, I v4.Low.Patch, I v4.High.Major, I v4.High.Minor, I v4.High.Patch])]⟩) ?_ ?_
        · refine tR <| rF rfl rfl rfl <| ARun.qv (n_load_ptr_part rfl rfl .p0 rfl rfl) rfl <| r_callp rfl (base_Version_c rfl) (CoL.refl _) rfl <| ARun.qv (q_not rfl) rfl <| rM rfl rfl <| ARun.guard rfl rfl rfl (fun hc => ?_) (fun hc => ?_)
          · refine have h := iteFb hc h; rF rfl rfl rfl <| rY rfl rfl rfl <| ARun.qv (n_load_ptr_part rfl rfl .p0 rfl rfl) rfl <| rY rfl rfl rfl <| r_callp rfl (base_Version_c rfl) (CoL.refl _) rfl <| rY rfl rfl rfl <| ARun.qv (q_not rfl) rfl <| rE rfl rfl rfl <| rM rfl rfl <| ARun.guard rfl rfl rfl (fun hc => ?_) (fun hc => ?_)
            · exact have h := iteFb hc h; rF rfl rfl rfl <| rY rfl rfl rfl <| ARun.qv (n_load_ptr_part rfl rfl .p0 rfl rfl) rfl <| rY rfl rfl rfl <| rF rfl rfl rfl <| rY rfl rfl rfl <| ARun.qv (n_load_ptr_part rfl rfl .p0 rfl rfl) rfl <| rY rfl rfl rfl <| bndE h fun v7 e2 h => r_callp rfl (campaign_Compare_c e2) (CoL.refl _) rfl <| rY rfl rfl rfl <| ARun.qv (q_gtr rfl rfl) rfl <| rE rfl rfl rfl <| rA rfl rfl <| rN <| ATodo.stop <| ImpX.lq [1, 0] ⟨decide ((0 : Int) < v7), h, rfl⟩ rfl rfl
            · exact have h := iteT hc h; rG rfl rfl rfl rfl <| rG rfl rfl rfl rfl <| rG rfl rfl rfl rfl <| rG rfl rfl rfl rfl <| rG rfl rfl rfl rfl <| rT rfl rfl rfl <| rA rfl rfl <| rN <| ATodo.stop <| ImpX.lq [1, 0] ⟨true, h, rfl⟩ rfl rfl
          · exact have h := iteT hc h; rG rfl rfl rfl rfl <| rG rfl rfl rfl rfl <| rG rfl rfl rfl rfl <| rT rfl rfl rfl <| rM rfl rfl <| rG rfl rfl rfl rfl <| rG rfl rfl rfl rfl <| rG rfl rfl rfl rfl <| rG rfl rfl rfl rfl <| rG rfl rfl rfl rfl <| rG rfl rfl rfl rfl <| rT rfl rfl rfl <| rA rfl rfl <| rN <| ATodo.stop <| ImpX.lq [1, 0] ⟨true, h, rfl⟩ rfl rfl
        · rintro σ' ⟨c6, h, rfl⟩
          unfold campaign_rangesFault_j1 at h
          refine ATodo.cond rfl (fun hc => ?_) (fun hc => ?_)
          · refine have h := iteT hc h; tSR <| rA rfl rfl <| rN <| ATodo.ret <| have h := outL h hA1; ?_
            obtain rfl := Option.some.inj h
            exact ImpX.here ⟨_, .cons (.tmp _ _ rfl) .nil, rfl⟩
          · refine have h := iteFb hc h; tS <| ATodo.cut (fun σ' => ∃ (c8 : Bool), campaign_rangesFault_j2 n3 c8 = some z1 ∧ σ' = ⟨57, [(1, .ptr b1 0), (10, .list 6 (p0x0.From.map Range.av)), (11, I (p0x0.From.length : Int)), (12, I n3), (36, .bool c8)], [(b1, .cells [I p0x0.Version.Major, I p0x0.Version.Minor, I p0x0.Version.Patch, .list 1 (p0x0.Models.map AV.str), .list 6 (p0x0.From.map Range.av), I p0x0.Size])]⟩) ?_ ?_
            · refine ATodo.regionM (id := 8) (A := [0, 1, 3, 7, 15, 7, 39, 7, 135, 487, 999, 2023, 4095, 8191, 16383, 32767]) 16 mixed rfl (by kernel_rfl) (by kernel_rfl) <| AM.qv (q_move rfl) rfl <| AM.qv (q_gtr rfl rfl) rfl <| AM.qv (q_move rfl) rfl <| AM.guard_dt rfl rfl rfl (fun hc => ?_) (fun hc => ?_)
              · exact have h := iteT hc h; AM.qv (n_field_ptr rfl rfl) rfl <| AM.guard_yes rfl rfl rfl <| AM.qv (n_load_ptr_part rfl rfl .p1 rfl rfl) rfl <| AM.guard_yes rfl rfl rfl <| AM.qv (n_field_ptr rfl rfl) rfl <| AM.guard_yes rfl rfl rfl <| AM.qv (q_load_ptr rfl rfl .p0 rfl) rfl <| AM.guard_yes rfl rfl rfl <| AM.qv (q_move rfl) rfl <| AM.guard_yes rfl rfl rfl <| AM.qv (q_subw rfl rfl) rfl <| AM.guard_yes rfl rfl rfl <| bndE h fun v9 e3 h => AM.qv (t_index rfl rfl rfl e3 rfl rfl) rfl <| AM.guard_yes rfl rfl rfl <| AM.qv (n_field_rptr rfl rfl) rfl <| AM.guard_yes rfl rfl rfl <| AM.qv (q_load_rptr_agg rfl rfl rfl) rfl <| AM.guard_yes rfl rfl rfl <| bndE h fun v10 e4 h => AM.callp rfl (campaign_Compare_c e4) (CoL.refl _) rfl <| AM.guard_yes rfl rfl rfl <| AM.qv (q_leq rfl rfl) rfl <| AM.qv (q_pick_t rfl rfl) rfl <| AM.qv (q_assign rfl) rfl <| AM.nil <| rN <| ATodo.stop <| ImpX.lq [0] ⟨decide (v10 ≤ (0 : Int)), h, rfl⟩ rfl rfl
              · exact have h := iteF hc h; AM.guard_no rfl rfl rfl rfl <| AM.guard_no rfl rfl rfl rfl <| AM.guard_no rfl rfl rfl rfl <| AM.guard_no rfl rfl rfl rfl <| AM.guard_no rfl rfl rfl rfl <| AM.guard_no rfl rfl rfl rfl <| AM.guard_no rfl rfl rfl rfl <| AM.guard_no rfl rfl rfl rfl <| AM.guard_no rfl rfl rfl rfl <| AM.guard_no rfl rfl rfl rfl <| AM.qv (q_pick_f rfl rfl) rfl <| AM.qv (q_assign rfl) rfl <| AM.nil <| rN <| ATodo.stop <| ImpX.lq [0] ⟨false, h, rfl⟩ rfl rfl
            · rintro σ' ⟨c8, h, rfl⟩
              unfold campaign_rangesFault_j2 at h
              refine ATodo.cond rfl (fun hc => ?_) (fun hc => ?_)
              · refine have h := iteT hc h; tSR <| rA rfl rfl <| rN <| ATodo.ret <| have h := outL h hA1; ?_
                obtain rfl := Option.some.inj h
                exact ImpX.here ⟨_, .cons (.tmp _ _ rfl) .nil, rfl⟩
              · refine have h := iteFb hc h; tK <| ATodo.blk <| ATodo.blk <| tR <| ARun.qv (q_addw rfl rfl) rfl <| rM rfl rfl <| rN <| ATodo.stop <| ?_
                obtain rfl := Option.some.inj h
                exact hJ1 _ _ rfl <| ImpX.lq [0] rfl rfl rfl
      · refine have h := iteF hc h; ATodo.exit rfl <| have h := outL h hA1; ?_
        unfold campaign_rangesFault_k3 at h
        refine tS <| tSR <| ARun.qv (q_load_ptr_all rfl rfl .p0 rfl) rfl <| rF rfl rfl rfl <| ARun.qv (n_load_ptr_part rfl rfl .p0 rfl rfl) rfl <| bndE h fun v11 e5 h => r_callp rfl (campaign_covers_c e5) (CoL.refl _) rfl <| rN <| ATodo.cond rfl (fun hc => ?_) (fun hc => ?_)
        · refine have h := iteT hc h; tSR <| rA rfl rfl <| rN <| ATodo.ret <| ?_
          obtain rfl := Option.some.inj h
          exact ImpX.here ⟨_, .cons (.tmp _ _ rfl) .nil, rfl⟩
        · refine have h := iteFb hc h; tK <| tSR <| rA rfl rfl <| rN <| ATodo.ret <| ?_
          obtain rfl := Option.some.inj h
          exact ImpX.here ⟨_, .cons (.tmp _ _ rfl) .nil, rfl⟩

set_option maxHeartbeats 4000000 in
theorem campaign_CheckImages_c [GI : GTab] {p0x0 : List Image} {r : Int} (h : campaign_CheckImages p0x0 = some r) : Pu Tryz.prog 160 [.list 6 (p0x0.map Image.av)] (I r) := by
  unfold campaign_CheckImages at h
  refine ACall.bodyN Tryz.func160 rfl Tryz.ntmps160 Tryz.results160 rfl rfl ?_
  refine tSR <| rA rfl rfl <| rN <| tS <| tSR <| rM rfl rfl <| ARun.qv (t_len rfl) rfl <| ARun.qv (q_gtr rfl rfl) rfl <| rN <| ATodo.cond_d rfl (fun hc => ?_) (fun hc => ?_)
  · refine have h := iteT hc h; tSR <| rA rfl rfl <| rN <| ATodo.ret <| ?_
    obtain rfl := Option.some.inj h
    exact ImpX.here ⟨_, .cons (.tmp _ _ rfl) .nil, rfl⟩
  · refine have h := iteF hc h; tK <| tS <| tSR <| rM rfl rfl <| ARun.qv (t_len rfl) rfl <| rM rfl rfl <| rN <| ATodo.block <| ATodo.loopI (fun x : Int => campaign_CheckImages_b1 p0x0 x) (fun x σ' => σ' = ⟨81, [(0, .list 6 (p0x0.map Image.av)), (11, .list 6 (p0x0.map Image.av)), (12, I (p0x0.length : Int)), (13, I x)], []⟩) h ?_ ?_
    · exact ImpX.lq [] rfl rfl rfl
    · intro n2 z1 σ' J1 hmk h hJ1 hA1
      obtain rfl := hmk
      replace h : campaign_CheckImages_b1 p0x0 n2 = some z1 := h
      unfold campaign_CheckImages_b1 at h
      refine tSR <| ARun.qv (q_lss rfl rfl) rfl <| rN <| tS <| ATodo.cond_d rfl (fun hc => ?_) (fun hc => ?_)
      · refine have h := iteT hc h; tK <| tS <| ATodo.block <| tSR <| rM rfl rfl <| bndE h fun v3 e1 h => ARun.qv (t_index rfl rfl rfl e1 rfl rfl) rfl <| ARun.qv (q_load_rptr_agg rfl rfl rfl) rfl <| n_alloc rfl rfl rfl rfl fun b4 => rA rfl rfl <| n_store_ptr rfl rfl rfl rfl .p0 rfl rfl <| rN <| tS <| ATodo.block <| tSR <| rF rfl rfl rfl <| ARun.qv (n_load_ptr_part rfl rfl .p0 rfl rfl) rfl <| r_callp rfl (base_Version_c rfl) (CoL.refl _) rfl <| ARun.qv (q_not rfl) rfl <| rA rfl rfl <| rN <| ATodo.cond rfl (fun hc => ?_) (fun hc => ?_)
        · refine have h := iteT hc h; tSR <| rA rfl rfl <| rN <| ATodo.ret <| have h := outL h hA1; ?_
          obtain rfl := Option.some.inj h
          exact ImpX.here ⟨_, .cons (.tmp _ _ rfl) .nil, rfl⟩
        · refine have h := iteFb hc h; tS <| ATodo.cut (fun σ' => ∃ (c5 : Bool), campaign_CheckImages_j1 n2 v3 c5 = some z1 ∧ σ' = ⟨81, [(0, .list 6 (p0x0.map Image.av)), (4, .ptr b4 0), (11, .list 6 (p0x0.map Image.av)), (12, I (p0x0.length : Int)), (13, I n2), (23, .bool c5)], [(b4, .cells [I v3.Version.Major, I v3.Version.Minor, I v3.Version.Patch, .list 1 (v3.Models.map AV.str), .list 6 (v3.From.map Range.av), I v3.Size])]⟩) ?_ ?_
          · refine ATodo.regionM (id := 8) (A := [0, 1, 3, 7, 15, 7, 7, 71, 231, 487, 999, 2047, 4095, 8191, 16383]) 15 mixed rfl (by kernel_rfl) (by kernel_rfl) <| AM.qv (q_move rfl) rfl <| AM.qv (q_gtr rfl rfl) rfl <| AM.qv (q_move rfl) rfl <| AM.guard_dt rfl rfl rfl (fun hc => ?_) (fun hc => ?_)
            · exact have h := iteT hc h; AM.qv (n_field_ptr rfl rfl) rfl <| AM.guard_yes rfl rfl rfl <| AM.qv (n_load_ptr_part rfl rfl .p0 rfl rfl) rfl <| AM.guard_yes rfl rfl rfl <| AM.qv (q_move rfl) rfl <| AM.guard_yes rfl rfl rfl <| AM.qv (q_move rfl) rfl <| AM.guard_yes rfl rfl rfl <| AM.qv (q_subw rfl rfl) rfl <| AM.guard_yes rfl rfl rfl <| bndE h fun v6 e2 h => AM.qv (t_index rfl rfl rfl e2 rfl rfl) rfl <| AM.guard_yes rfl rfl rfl <| AM.qv (n_field_rptr rfl rfl) rfl <| AM.guard_yes rfl rfl rfl <| AM.qv (n_load_rptr_part rfl rfl rfl rfl) rfl <| AM.guard_yes rfl rfl rfl <| bndE h fun v7 e3 h => AM.callp rfl (campaign_Compare_c e3) (CoL.refl _) rfl <| AM.guard_yes rfl rfl rfl <| AM.qv (q_leq rfl rfl) rfl <| AM.qv (q_pick_t rfl rfl) rfl <| AM.qv (q_assign rfl) rfl <| AM.nil <| rN <| ATodo.stop <| ImpX.lq [0] ⟨decide (v7 ≤ (0 : Int)), h, rfl⟩ rfl rfl
            · exact have h := iteF hc h; AM.guard_no rfl rfl rfl rfl <| AM.guard_no rfl rfl rfl rfl <| AM.guard_no rfl rfl rfl rfl <| AM.guard_no rfl rfl rfl rfl <| AM.guard_no rfl rfl rfl rfl <| AM.guard_no rfl rfl rfl rfl <| AM.guard_no rfl rfl rfl rfl <| AM.guard_no rfl rfl rfl rfl <| AM.guard_no rfl rfl rfl rfl <| AM.qv (q_pick_f rfl rfl) rfl <| AM.qv (q_assign rfl) rfl <| AM.nil <| rN <| ATodo.stop <| ImpX.lq [0] ⟨false, h, rfl⟩ rfl rfl
          · rintro σ' ⟨c5, h, rfl⟩
            unfold campaign_CheckImages_j1 at h
            refine ATodo.cond rfl (fun hc => ?_) (fun hc => ?_)
            · refine have h := iteT hc h; tSR <| rA rfl rfl <| rN <| ATodo.ret <| have h := outL h hA1; ?_
              obtain rfl := Option.some.inj h
              exact ImpX.here ⟨_, .cons (.tmp _ _ rfl) .nil, rfl⟩
            · refine have h := iteFb hc h; tSR <| rF rfl rfl rfl <| rL rfl rfl .p0 rfl rfl <| ARun.qv (t_len rfl) rfl <| ARun.qv (q_eql rfl rfl) rfl <| rA rfl rfl <| rN <| ATodo.cond_d rfl (fun hc => ?_) (fun hc => ?_)
              · refine have h := iteT hc h; tSR <| rA rfl rfl <| rN <| ATodo.ret <| have h := outL h hA1; ?_
                obtain rfl := Option.some.inj h
                exact ImpX.here ⟨_, .cons (.tmp _ _ rfl) .nil, rfl⟩
              · refine have h := iteF hc h; tSR <| rF rfl rfl rfl <| rL rfl rfl .p0 rfl rfl <| ARun.qv (t_len rfl) rfl <| ARun.qv (q_gtr rfl rfl) rfl <| rA rfl rfl <| rN <| ATodo.cond_d rfl (fun hc => ?_) (fun hc => ?_)
                · refine have h := iteT hc h; tSR <| rA rfl rfl <| rN <| ATodo.ret <| have h := outL h hA1; ?_
                  obtain rfl := Option.some.inj h
                  exact ImpX.here ⟨_, .cons (.tmp _ _ rfl) .nil, rfl⟩
                · refine have h := iteF hc h; tK <| ATodo.blk <| tS <| tSR <| rF rfl rfl rfl <| rL rfl rfl .p0 rfl rfl <| ARun.qv (t_len rfl) rfl <| rM rfl rfl <| rN <| ATodo.block <| ATodo.loopI (fun x : Int => campaign_CheckImages_b2 n2 v3 x) (fun x σ' => σ' = ⟨81, [(0, .list 6 (p0x0.map Image.av)), (4, .ptr b4 0), (11, .list 6 (p0x0.map Image.av)), (12, I (p0x0.length : Int)), (13, I n2), (49, .list 1 (v3.Models.map AV.str)), (50, I (v3.Models.length : Int)), (51, I x)], [(b4, .cells [I v3.Version.Major, I v3.Version.Minor, I v3.Version.Patch, .list 1 (v3.Models.map AV.str), .list 6 (v3.From.map Range.av), I v3.Size])]⟩) h ?_ ?_
                  · exact ImpX.lq [0] rfl rfl rfl
                  · intro n9 z2 σ' J2 hmk h hJ2 hA2
                    obtain rfl := hmk
                    replace h : campaign_CheckImages_b2 n2 v3 n9 = some z2 := h
                    unfold campaign_CheckImages_b2 at h
                    refine tSR <| ARun.qv (q_lss rfl rfl) rfl <| rN <| tS <| ATodo.cond_d rfl (fun hc => ?_) (fun hc => ?_)
                    · refine have h := iteT hc h; tK <| tS <| ATodo.block <| tSR <| rM rfl rfl <| bndE h fun v10 e4 h => ARun.qv (t_index rfl rfl rfl e4 rfl rfl) rfl <| ARun.qv (q_load_rptr rfl rfl rfl) rfl <| rA rfl rfl <| rA rfl rfl <| rN <| tS <| tSR <| rM rfl rfl <| bndE h fun v11 e5 h => r_callp rfl (base_Key_c e5) (CoL.refl _) rfl <| ARun.qv (q_not rfl) rfl <| rN <| ATodo.cond rfl (fun hc => ?_) (fun hc => ?_)
                      · refine have h := iteT hc h; tSR <| rA rfl rfl <| rN <| ATodo.ret <| have h := outL h hA2; have h := outL h hA1; ?_
                        obtain rfl := Option.some.inj h
                        exact ImpX.here ⟨_, .cons (.tmp _ _ rfl) .nil, rfl⟩
                      · refine have h := iteFb hc h; tK <| tS <| ATodo.cut (fun σ' => ∃ (c12 : Bool), campaign_CheckImages_j2 n9 c12 = some z2 ∧ σ' = ⟨81, [(0, .list 6 (p0x0.map Image.av)), (4, .ptr b4 0), (11, .list 6 (p0x0.map Image.av)), (12, I (p0x0.length : Int)), (13, I n2), (49, .list 1 (v3.Models.map AV.str)), (50, I (v3.Models.length : Int)), (51, I n9), (70, .bool c12)], [(b4, .cells [I v3.Version.Major, I v3.Version.Minor, I v3.Version.Patch, .list 1 (v3.Models.map AV.str), .list 6 (v3.From.map Range.av), I v3.Size])]⟩) ?_ ?_
                        · refine tR <| rM rfl rfl <| ARun.qv (q_gtr rfl rfl) rfl <| rM rfl rfl <| ARun.guard_dt rfl rfl rfl (fun hc => ?_) (fun hc => ?_)
                          · exact have h := iteT hc h; rM rfl rfl <| rY rfl rfl rfl <| rF rfl rfl rfl <| rY rfl rfl rfl <| rL rfl rfl .p0 rfl rfl <| rY rfl rfl rfl <| rM rfl rfl <| rY rfl rfl rfl <| ARun.qv (q_subw rfl rfl) rfl <| rY rfl rfl rfl <| bndE h fun v13 e6 h => ARun.qv (t_index rfl rfl rfl e6 rfl rfl) rfl <| rY rfl rfl rfl <| ARun.qv (q_load_rptr rfl rfl rfl) rfl <| rY rfl rfl rfl <| ARun.qv (t_sleq rfl rfl) rfl <| rT rfl rfl rfl <| rN <| ATodo.stop <| ImpX.lq [0] ⟨Op.bytesLess v10 v13 || v10 == v13, h, rfl⟩ rfl rfl
                          · exact have h := iteF hc h; rG rfl rfl rfl rfl <| rG rfl rfl rfl rfl <| rG rfl rfl rfl rfl <| rG rfl rfl rfl rfl <| rG rfl rfl rfl rfl <| rG rfl rfl rfl rfl <| rG rfl rfl rfl rfl <| rE rfl rfl rfl <| rN <| ATodo.stop <| ImpX.lq [0] ⟨false, h, rfl⟩ rfl rfl
                        · rintro σ' ⟨c12, h, rfl⟩
                          unfold campaign_CheckImages_j2 at h
                          refine ATodo.cond rfl (fun hc => ?_) (fun hc => ?_)
                          · refine have h := iteT hc h; tSR <| rA rfl rfl <| rN <| ATodo.ret <| have h := outL h hA2; have h := outL h hA1; ?_
                            obtain rfl := Option.some.inj h
                            exact ImpX.here ⟨_, .cons (.tmp _ _ rfl) .nil, rfl⟩
                          · refine have h := iteFb hc h; tK <| ATodo.blk <| tR <| ARun.qv (q_addw rfl rfl) rfl <| rM rfl rfl <| rN <| ATodo.stop <| ?_
                            obtain rfl := Option.some.inj h
                            exact hJ2 _ _ rfl <| ImpX.lq [0] rfl rfl rfl
                    · refine have h := iteF hc h; ATodo.exit rfl <| have h := outL h hA2; ?_
                      unfold campaign_CheckImages_k3 at h
                      refine tS <| tSR <| ARun.qv (q_load_ptr_all rfl rfl .p0 rfl) rfl <| bndE h fun v14 e7 h => r_callp rfl (campaign_rangesFault_c e7) (CoL.refl _) rfl <| rA rfl rfl <| rN <| tSR <| rM rfl rfl <| ARun.qv (q_neq rfl rfl) rfl <| rN <| ATodo.cond_d rfl (fun hc => ?_) (fun hc => ?_)
                      · refine have h := iteT hc h; tSR <| rM rfl rfl <| rA rfl rfl <| rN <| ATodo.ret <| have h := outL h hA1; ?_
                        obtain rfl := Option.some.inj h
                        exact ImpX.here ⟨_, .cons (.tmp _ _ rfl) .nil, rfl⟩
                      · refine have h := iteF hc h; tK <| tSR <| rF rfl rfl rfl <| rL rfl rfl .p0 rfl rfl <| r_callp rfl (base_Out_c rfl) (CoL.refl _) rfl <| rN <| ATodo.cond rfl (fun hc => ?_) (fun hc => ?_)
                        · refine have h := iteT hc h; tSR <| rA rfl rfl <| rN <| ATodo.ret <| have h := outL h hA1; ?_
                          obtain rfl := Option.some.inj h
                          exact ImpX.here ⟨_, .cons (.tmp _ _ rfl) .nil, rfl⟩
                        · refine have h := iteFb hc h; tK <| ATodo.blk <| tR <| ARun.qv (q_addw rfl rfl) rfl <| rM rfl rfl <| rN <| ATodo.stop <| ?_
                          obtain rfl := Option.some.inj h
                          exact hJ1 _ _ rfl <| ImpX.lq [] rfl rfl rfl
      · refine have h := iteF hc h; ATodo.exit rfl <| have h := outL h hA1; tSR <| rA rfl rfl <| rN <| ATodo.ret <| ?_
        obtain rfl := Option.some.inj h
        exact ImpX.here ⟨_, .cons (.tmp _ _ rfl) .nil, rfl⟩

set_option maxHeartbeats 4000000 in
theorem campaign_versionFault_c [GI : GTab] {p0x0 : Version} {r : Int} (h : campaign_versionFault p0x0 = r) : Pu Tryz.prog 161 [.agg [I p0x0.Major, I p0x0.Minor, I p0x0.Patch]] (I r) := by
  unfold campaign_versionFault at h
  refine ACall.bodyN Tryz.func161 rfl Tryz.ntmps161 Tryz.results161 rfl rfl ?_
  refine tSR <| n_box rfl rfl rfl rfl fun b1 => rA rfl rfl <| rN <| tS <| tSR <| ARun.qv (q_load_ptr_all rfl rfl .p0 rfl) rfl <| r_callp rfl (base_Version_c rfl) (CoL.refl _) rfl <| ARun.qv (q_not rfl) rfl <| rN <| ATodo.cond rfl (fun hc => ?_) (fun hc => ?_)
  · refine have h := iteT hc h; tSR <| rA rfl rfl <| rN <| ATodo.ret <| ?_
    obtain rfl := h
    exact ImpX.here ⟨_, .cons (.tmp _ _ rfl) .nil, rfl⟩
  · refine have h := iteFb hc h; tK <| tSR <| rA rfl rfl <| rN <| ATodo.ret <| ?_
    obtain rfl := h
    exact ImpX.here ⟨_, .cons (.tmp _ _ rfl) .nil, rfl⟩

set_option maxHeartbeats 4000000 in
theorem campaign_modelFault_c [GI : GTab] {p0x0 : List Image} {p1x0 : Str} {p2x0 : List Version} {r : Int} (h : campaign_modelFault p0x0 p1x0 p2x0 = some r) : Pu Tryz.prog 101 [.list 6 (p0x0.map Image.av), .str p1x0, .list 3 (p2x0.map Version.av)] (I r) := by
  unfold campaign_modelFault at h
  refine ACall.bodyN Tryz.func101 rfl Tryz.ntmps101 Tryz.results101 rfl rfl ?_
  refine tSR <| rA rfl rfl <| rN <| tS <| tSR <| rM rfl rfl <| bndE h fun v1 e1 h => r_callp rfl (campaign_CheckImages_c e1) (CoL.refl _) rfl <| rA rfl rfl <| rN <| tSR <| rM rfl rfl <| ARun.qv (q_neq rfl rfl) rfl <| rN <| ATodo.cond_d rfl (fun hc => ?_) (fun hc => ?_)
  · refine have h := iteT hc h; tSR <| rM rfl rfl <| rA rfl rfl <| rN <| ATodo.ret <| ?_
    obtain rfl := Option.some.inj h
    exact ImpX.here ⟨_, .cons (.tmp _ _ rfl) .nil, rfl⟩
  · refine have h := iteF hc h; tK <| tS <| tSR <| rM rfl rfl <| bndE h fun v2 e2 h => r_callp rfl (base_Key_c e2) (CoL.refl _) rfl <| ARun.qv (q_not rfl) rfl <| rN <| ATodo.cond rfl (fun hc => ?_) (fun hc => ?_)
    · refine have h := iteT hc h; tSR <| rA rfl rfl <| rN <| ATodo.ret <| ?_
      obtain rfl := Option.some.inj h
      exact ImpX.here ⟨_, .cons (.tmp _ _ rfl) .nil, rfl⟩
    · refine have h := iteFb hc h; tK <| tS <| tSR <| rM rfl rfl <| ARun.qv (t_len rfl) rfl <| rM rfl rfl <| rN <| ATodo.block <| ATodo.loopI (fun x : Int => campaign_modelFault_b1 p2x0 x) (fun x σ' => σ' = ⟨31, [(19, .list 3 (p2x0.map Version.av)), (20, I (p2x0.length : Int)), (21, I x)], []⟩) h ?_ ?_
      · exact ImpX.lq [] rfl rfl rfl
      · intro n4 z1 σ' J1 hmk h hJ1 hA1
        obtain rfl := hmk
        replace h : campaign_modelFault_b1 p2x0 n4 = some z1 := h
        unfold campaign_modelFault_b1 at h
        refine tSR <| ARun.qv (q_lss rfl rfl) rfl <| rN <| tS <| ATodo.cond_d rfl (fun hc => ?_) (fun hc => ?_)
        · refine have h := iteT hc h; tK <| tS <| ATodo.block <| tSR <| bndE h fun v5 e3 h => ARun.qv (t_index rfl rfl rfl e3 rfl rfl) rfl <| ARun.qv (q_load_rptr_agg rfl rfl rfl) rfl <| n_alloc rfl rfl rfl rfl fun b6 => n_store_ptr rfl rfl rfl rfl .p0 rfl rfl <| rN <| tSR <| ARun.qv (q_load_ptr_all rfl rfl .p0 rfl) rfl <| r_callp rfl (campaign_versionFault_c rfl) (CoL.refl _) rfl <| rA rfl rfl <| rN <| tSR <| rM rfl rfl <| ARun.qv (q_neq rfl rfl) rfl <| rN <| ATodo.cond_d rfl (fun hc => ?_) (fun hc => ?_)
          · refine have h := iteT hc h; tSR <| rM rfl rfl <| rA rfl rfl <| rN <| ATodo.ret <| have h := outL h hA1; ?_
            obtain rfl := Option.some.inj h
            exact ImpX.here ⟨_, .cons (.tmp _ _ rfl) .nil, rfl⟩
          · refine have h := iteF hc h; tK <| ATodo.blk <| tR <| ARun.qv (q_addw rfl rfl) rfl <| rM rfl rfl <| rN <| ATodo.stop <| ?_
            obtain rfl := Option.some.inj h
            exact hJ1 _ _ rfl <| ImpX.lq [] rfl rfl rfl
        · refine have h := iteF hc h; ATodo.exit rfl <| have h := outL h hA1; tSR <| rA rfl rfl <| rN <| ATodo.ret <| ?_
          obtain rfl := Option.some.inj h
          exact ImpX.here ⟨_, .cons (.tmp _ _ rfl) .nil, rfl⟩

set_option maxHeartbeats 4000000 in
theorem slices_Index_string_string_c [GI : GTab] {p0x0 : List Str} {p1x0 : Str} {r : Int} (h : slices_Index_string_string p0x0 p1x0 = some r) : Pu Tryz.prog 164 [.list 1 (p0x0.map AV.str), .str p1x0] (I r) := by
  unfold slices_Index_string_string at h
  refine ACall.bodyN Tryz.func164 rfl Tryz.ntmps164 Tryz.results164 rfl rfl ?_
  refine tSR <| rA rfl rfl <| rN <| tS <| tSR <| rM rfl rfl <| ARun.qv (t_len rfl) rfl <| rM rfl rfl <| rN <| ATodo.block <| ATodo.loopI (fun x : Int => slices_Index_string_string_b1 p0x0 p1x0 x) (fun x σ' => σ' = ⟨19, [(0, .list 1 (p0x0.map AV.str)), (1, .str p1x0), (7, I (p0x0.length : Int)), (8, I x)], []⟩) h ?_ ?_
  · exact ImpX.lq [] rfl rfl rfl
  · intro n2 z1 σ' J1 hmk h hJ1 hA1
    obtain rfl := hmk
    replace h : slices_Index_string_string_b1 p0x0 p1x0 n2 = some z1 := h
    unfold slices_Index_string_string_b1 at h
    refine tSR <| ARun.qv (q_lss rfl rfl) rfl <| rN <| tS <| ATodo.cond_d rfl (fun hc => ?_) (fun hc => ?_)
    · refine have h := iteT hc h; tK <| tS <| ATodo.block <| tSR <| rM rfl rfl <| rA rfl rfl <| rN <| tSR <| rM rfl rfl <| rM rfl rfl <| rM rfl rfl <| bndE h fun v3 e1 h => ARun.qv (t_index rfl rfl rfl e1 rfl rfl) rfl <| ARun.qv (q_load_rptr rfl rfl rfl) rfl <| ARun.qv (q_seq rfl rfl) rfl <| rN <| ATodo.cond_d rfl (fun hc => ?_) (fun hc => ?_)
      · refine have h := iteT hc h; tSR <| rM rfl rfl <| rA rfl rfl <| rN <| ATodo.ret <| have h := outL h hA1; ?_
        obtain rfl := Option.some.inj h
        exact ImpX.here ⟨_, .cons (.tmp _ _ rfl) .nil, rfl⟩
      · refine have h := iteF hc h; tK <| ATodo.blk <| tR <| ARun.qv (q_addw rfl rfl) rfl <| rM rfl rfl <| rN <| ATodo.stop <| ?_
        obtain rfl := Option.some.inj h
        exact hJ1 _ _ rfl <| ImpX.lq [] rfl rfl rfl
    · refine have h := iteF hc h; ATodo.exit rfl <| have h := outL h hA1; tSR <| rA rfl rfl <| rN <| ATodo.ret <| ?_
      obtain rfl := Option.some.inj h
      exact ImpX.here ⟨_, .cons (.tmp _ _ rfl) .nil, rfl⟩

set_option maxHeartbeats 4000000 in
theorem slices_Contains_string_string_c [GI : GTab] {p0x0 : List Str} {p1x0 : Str} {r : Bool} (h : slices_Contains_string_string p0x0 p1x0 = some r) : Pu Tryz.prog 105 [.list 1 (p0x0.map AV.str), .str p1x0] (.bool r) := by
  unfold slices_Contains_string_string at h
  refine ACall.bodyN Tryz.func105 rfl Tryz.ntmps105 Tryz.results105 rfl rfl ?_
  refine tSR <| rA rfl rfl <| rN <| tSR <| rM rfl rfl <| rM rfl rfl <| bndE h fun v1 e1 h => r_callp rfl (slices_Index_string_string_c e1) (CoL.refl _) rfl <| ARun.qv (q_geq rfl rfl) rfl <| rA rfl rfl <| rN <| ATodo.ret <| ?_
  obtain rfl := Option.some.inj h
  exact ImpX.here ⟨_, .cons (.tmp _ _ rfl) .nil, rfl⟩

set_option maxHeartbeats 4000000 in
theorem campaign_taken_c [GI : GTab] {p0x0 : List Image} {p1x0 : Str} {p2x0 : Version} {r : (List Image)} (h : campaign_taken p0x0 p1x0 p2x0 = some r) : ACall Tryz.prog 102 [.list 6 (p0x0.map Image.av), .str p1x0, .agg [I p2x0.Major, I p2x0.Minor, I p2x0.Patch]] [] (T1 (fun d_0 => [(d_0, .arr 6 (r.map Image.av))]) (fun d_0 => .sl 6 d_0 0 r.length)) := by
  unfold campaign_taken at h
  refine ACall.lessH ?_
  refine ACall.bodyN Tryz.func102 rfl Tryz.ntmps102 Tryz.results102 rfl rfl ?_
  refine tSR <| n_box rfl rfl rfl rfl fun b1 => rA rfl rfl <| rN <| tSR <| rA rfl rfl <| rN <| tS <| tSR <| rM rfl rfl <| ARun.qv (t_len rfl) rfl <| rM rfl rfl <| rN <| ATodo.block <| ATodo.loopI (fun x : (List Image) × Int => campaign_taken_b1 p0x0 p1x0 p2x0 x.1 x.2) (fun x σ' => ∃ (b5 : Bk), σ' = ⟨31, [(1, .str p1x0), (5, .ptr b1 0), (7, .sl 6 b5 0 x.1.length), (10, .list 6 (p0x0.map Image.av)), (11, I (p0x0.length : Int)), (12, I x.2)], [(b1, .cells [I p2x0.Major, I p2x0.Minor, I p2x0.Patch]), (b5, .arr 6 (x.1.map Image.av))]⟩) h ?_ ?_
  · exact ImpX.arr (s := 7) 6 rfl fun b8 => ImpX.lq [1, 0] ⟨b8, rfl⟩ rfl rfl
  · intro x z1 σ' J1 hmk h hJ1 hA1
    obtain ⟨l6, n7⟩ := x
    obtain ⟨b5, rfl⟩ := hmk
    replace h : campaign_taken_b1 p0x0 p1x0 p2x0 l6 n7 = some z1 := h
    unfold campaign_taken_b1 at h
    refine tSR <| ARun.qv (q_lss rfl rfl) rfl <| rN <| tS <| ATodo.cond_d rfl (fun hc => ?_) (fun hc => ?_)
    · refine have h := iteT hc h; tK <| tS <| ATodo.block <| tSR <| bndE h fun v9 e1 h => ARun.qv (t_index rfl rfl rfl e1 rfl rfl) rfl <| ARun.qv (q_load_rptr_agg rfl rfl rfl) rfl <| n_alloc rfl rfl rfl rfl fun b10 => n_store_ptr rfl rfl rfl rfl .p0 rfl rfl <| rN <| tS <| ATodo.cut (fun σ' => ∃ (c11 : Bool), campaign_taken_j1 l6 n7 v9 c11 = some z1 ∧ σ' = ⟨31, [(1, .str p1x0), (5, .ptr b1 0), (7, .sl 6 b5 0 l6.length), (9, .ptr b10 0), (10, .list 6 (p0x0.map Image.av)), (11, I (p0x0.length : Int)), (12, I n7), (24, .bool c11)], [(b1, .cells [I p2x0.Major, I p2x0.Minor, I p2x0.Patch]), (b5, .arr 6 (l6.map Image.av)), (b10, .cells [I v9.Version.Major, I v9.Version.Minor, I v9.Version.Patch, .list 1 (v9.Models.map AV.str), .list 6 (v9.From.map Range.av), I v9.Size])]⟩) ?_ ?_
      · refine tR <| rF rfl rfl rfl <| rL rfl rfl .p0 rfl rfl <| rM rfl rfl <| bndE h fun v12 e2 h => r_callp rfl (slices_Contains_string_string_c e2) (CoL.refl _) rfl <| rM rfl rfl <| ARun.guard rfl rfl rfl (fun hc => ?_) (fun hc => ?_)
        · exact have h := iteT hc h; ARun.qv (q_load_ptr_all rfl rfl .p0 rfl) rfl <| rY rfl rfl rfl <| ARun.qv (q_load_ptr_all rfl rfl .p1 rfl) rfl <| rY rfl rfl rfl <| bndE h fun v13 e3 h => r_callp rfl (campaign_covers_c e3) (CoL.refl _) rfl <| rT rfl rfl rfl <| rN <| ATodo.stop <| ImpX.lq [1, 1, 0] ⟨v13, h, rfl⟩ rfl rfl
        · exact have h := iteFb hc h; rG rfl rfl rfl rfl <| rG rfl rfl rfl rfl <| rE rfl rfl rfl <| rN <| ATodo.stop <| ImpX.lq [1, 1, 0] ⟨false, h, rfl⟩ rfl rfl
      · rintro σ' ⟨c11, h, rfl⟩
        unfold campaign_taken_j1 at h
        refine ATodo.cut (fun σ' => ∃ (b14 : Bk) (l15 : List Image), campaign_taken_j2 n7 l15 = some z1 ∧ σ' = ⟨31, [(1, .str p1x0), (5, .ptr b1 0), (7, .sl 6 b14 0 l15.length), (10, .list 6 (p0x0.map Image.av)), (11, I (p0x0.length : Int)), (12, I n7)], [(b1, .cells [I p2x0.Major, I p2x0.Minor, I p2x0.Patch]), (b14, .arr 6 (l15.map Image.av))]⟩) ?_ ?_
        · refine ATodo.cond rfl (fun hc => ?_) (fun hc => ?_)
          · exact have h := iteT hc h; tR <| rM rfl rfl <| ARun.qv (q_load_ptr_all rfl rfl .p2 rfl) rfl <| n_buildSliceL (xs := ([v9] : List Image).map Image.av) rfl rfl rfl rfl rfl rfl <| bndE h fun l16 e4 h => t_append (g := Image.av) rfl rfl rfl rfl rfl rfl rfl rfl (.list _) e4 (fun _ => .p1) rfl fun b17 => rA rfl rfl <| rN <| ATodo.stop <| ImpX.lq [0, 0] ⟨b17, l16, h, rfl⟩ rfl rfl
          · exact have h := iteFb hc h; tK <| ATodo.stop <| ImpX.lq [0, 0] ⟨b5, l6, h, rfl⟩ rfl rfl
        · rintro σ' ⟨b14, l15, h, rfl⟩
          unfold campaign_taken_j2 at h
          refine ATodo.blk <| tR <| ARun.qv (q_addw rfl rfl) rfl <| rM rfl rfl <| rN <| ATodo.stop <| ?_
          obtain rfl := Option.some.inj h
          exact hJ1 _ _ rfl <| ImpX.lq [0, 0] ⟨b14, rfl⟩ rfl rfl
    · refine have h := iteF hc h; ATodo.exit rfl <| have h := outL h hA1; tSR <| rM rfl rfl <| rA rfl rfl <| rN <| ATodo.ret <| ?_
      obtain rfl := Option.some.inj h
      exact ImpX.here ⟨_, .cons (.tmp _ _ rfl) .nil, _, .cons .p1 .nil, ⟨b5, rfl, rfl⟩⟩

set_option maxHeartbeats 4000000 in
theorem campaign_Next_c [GI : GTab] {p0x0 : List Image} {p1x0 : Str} {p2x0 : Version} {r : (List Version) × Int} (h : campaign_Next p0x0 p1x0 p2x0 = some r) : ACall Tryz.prog 45 [.list 6 (p0x0.map Image.av), .str p1x0, .agg [I p2x0.Major, I p2x0.Minor, I p2x0.Patch]] [] (T1 (fun d_0 => [(d_0, .arr 3 (r.1.map Version.av))]) (fun d_0 => .tup [.sl 3 d_0 0 r.1.length, I r.2])) := by
  unfold campaign_Next at h
  refine ACall.lessH ?_
  refine ACall.bodyN Tryz.func45 rfl Tryz.ntmps45 Tryz.results45 rfl rfl ?_
  refine tSR <| n_box rfl rfl rfl rfl fun b1 => rA rfl rfl <| rA rfl rfl <| rN <| tS <| tSR <| rM rfl rfl <| rM rfl rfl <| ARun.qv (q_load_ptr_all rfl rfl .p0 rfl) rfl <| n_buildSliceL (xs := ([p2x0] : List Version).map Version.av) rfl rfl rfl rfl rfl rfl <| bndE h fun v2 e1 h => r_callp rfl (campaign_modelFault_c e1) (CoL.refl _) rfl <| rA rfl rfl <| rN <| tSR <| rM rfl rfl <| ARun.qv (q_neq rfl rfl) rfl <| rN <| ATodo.cond_d rfl (fun hc => ?_) (fun hc => ?_)
  · refine have h := iteT hc h; tSR <| rM rfl rfl <| rA rfl rfl <| rA rfl rfl <| rN <| ATodo.ret <| ?_
    obtain rfl := Option.some.inj h
    exact ImpX.arr (s := 6) 3 rfl fun b3 => ImpX.here ⟨_, .cons (.tmp _ _ rfl) (.cons (.tmp _ _ rfl) .nil), _, .cons .p0 .nil, ⟨b3, rfl, rfl⟩⟩
  · refine have h := iteF hc h; tK <| tSR <| rA rfl rfl <| rN <| tS <| tSR <| rM rfl rfl <| rM rfl rfl <| ARun.qv (q_load_ptr_all rfl rfl .p0 rfl) rfl <| bndE h fun v4 e2 h => t_call1 rfl (campaign_taken_c e2) (CoL.refl _) .nil (fun _ => rfl) rfl fun b5 => ARun.qv (t_len_sl rfl) rfl <| rM rfl rfl <| rN <| ATodo.block <| ATodo.loopI (fun x : (List Version) × Int => campaign_Next_b1 v4 x.1 x.2) (fun x σ' => ∃ (b9 : Bk), σ' = ⟨36, [(9, .sl 3 b9 0 x.1.length), (23, .sl 6 b5 0 v4.length), (24, I (v4.length : Int)), (25, I x.2)], [(b9, .arr 3 (x.1.map Version.av)), (b5, .arr 6 (v4.map Image.av))]⟩) h ?_ ?_
    · exact ImpX.arr (s := 9) 3 rfl fun b12 => ImpX.lq [0, 0] ⟨b12, rfl⟩ rfl rfl
    · intro x z1 σ' J1 hmk h hJ1 hA1
      obtain ⟨l10, n11⟩ := x
      obtain ⟨b9, rfl⟩ := hmk
      replace h : campaign_Next_b1 v4 l10 n11 = some z1 := h
      unfold campaign_Next_b1 at h
      refine tSR <| ARun.qv (q_lss rfl rfl) rfl <| rN <| tS <| ATodo.cond_d rfl (fun hc => ?_) (fun hc => ?_)
      · refine have h := iteT hc h; tK <| tS <| ATodo.block <| tSR <| bndE h fun v13 e3 h => ARun.qv (t_index_sl rfl rfl rfl e3) rfl <| ARun.qv (t_load_aptr_agg (g := Image.av) rfl rfl (.inl .p1) rfl e3 rfl) rfl <| n_alloc rfl rfl rfl rfl fun b14 => n_store_ptr rfl rfl rfl rfl .p0 rfl rfl <| rN <| tR <| rM rfl rfl <| rF rfl rfl rfl <| ARun.qv (n_load_ptr_part rfl rfl .p0 rfl rfl) rfl <| n_buildSliceL (xs := ([v13.Version] : List Version).map Version.av) rfl rfl rfl rfl rfl rfl <| bndE h fun l15 e4 h => t_append (g := Version.av) rfl rfl rfl rfl rfl rfl rfl rfl (.list _) e4 (fun _ => .p1) rfl fun b16 => rA rfl rfl <| rN <| ATodo.blk <| tR <| ARun.qv (q_addw rfl rfl) rfl <| rM rfl rfl <| rN <| ATodo.stop <| ?_
        obtain rfl := Option.some.inj h
        exact hJ1 _ _ rfl <| ImpX.lq [1, 1] ⟨b16, rfl⟩ rfl rfl
      · refine have h := iteF hc h; ATodo.exit rfl <| have h := outL h hA1; tSR <| rM rfl rfl <| rA rfl rfl <| rA rfl rfl <| rN <| ATodo.ret <| ?_
        obtain rfl := Option.some.inj h
        exact ImpX.here ⟨_, .cons (.tmp _ _ rfl) (.cons (.tmp _ _ rfl) .nil), _, .cons .p0 .nil, ⟨b9, rfl, rfl⟩⟩

set_option maxHeartbeats 4000000 in
theorem campaign_byCost_c [GI : GTab] {p0x0 : Campaign_cost} {p1x0 : Campaign_cost} {r : Int} (h : campaign_byCost p0x0 p1x0 = some r) : Pu Tryz.prog 163 [.agg [I p0x0.steps_, I p0x0.size_], .agg [I p1x0.steps_, I p1x0.size_]] (I r) := by
  unfold campaign_byCost at h
  refine ACall.bodyN Tryz.func163 rfl Tryz.ntmps163 Tryz.results163 rfl rfl ?_
  refine tSR <| n_box rfl rfl rfl rfl fun b1 => n_box rfl rfl rfl rfl fun b2 => rA rfl rfl <| rN <| tS <| ATodo.regionM (id := 1) (A := [0, 1, 0, 4, 15, 0, 32, 0, 128, 511, 1023, 2047, 4095]) 13 mixed rfl (by kernel_rfl) (by kernel_rfl) <| AM.qv (n_field_ptr rfl rfl) rfl <| AM.qv (q_load_ptr rfl rfl .p1 rfl) rfl <| AM.qv (n_field_ptr rfl rfl) rfl <| AM.qv (q_load_ptr rfl rfl .p0 rfl) rfl <| AM.callp rfl (cmp_Compare_int_c rfl) (CoL.refl _) rfl <| AM.qv (n_field_ptr rfl rfl) rfl <| AM.qv (q_load_ptr rfl rfl .p1 rfl) rfl <| AM.qv (n_field_ptr rfl rfl) rfl <| AM.qv (q_load_ptr rfl rfl .p0 rfl) rfl <| AM.callp rfl (cmp_Compare_int_c rfl) (CoL.refl _) rfl <| AM.buildSliceL (xs := ([(cmp_Compare_int p0x0.steps_ p1x0.steps_), (cmp_Compare_int p0x0.size_ p1x0.size_)] : List Int).map I) rfl rfl rfl rfl rfl rfl <| bndE h fun v3 e1 h => AM.callp rfl (cmp_Or_int_c e1) (CoL.refl _) rfl <| AM.qv (q_assign rfl) rfl <| AM.nil <| rN <| ATodo.ret <| ?_
  obtain rfl := Option.some.inj h
  exact ImpX.here ⟨_, .cons (.tmp _ _ rfl) .nil, rfl⟩

set_option maxHeartbeats 4000000 in
theorem campaign_costs_c [GI : GTab] {p0x0 : List Image} {p1x0 : Str} {p2x0 : Version} {r : (List (Version × Campaign_cost))} (h : campaign_costs p0x0 p1x0 p2x0 = some r) : ACall Tryz.prog 104 [.list 6 (p0x0.map Image.av), .str p1x0, .agg [I p2x0.Major, I p2x0.Minor, I p2x0.Patch]] [] (T1 (fun d_0 => [(d_0, .mp (r.map (fun e => (Version.av e.1, Campaign_cost.av e.2))))]) (fun d_0 => .mref d_0)) := by
  unfold campaign_costs at h
  refine ACall.lessH ?_
  refine ACall.bodyN Tryz.func104 rfl Tryz.ntmps104 Tryz.results104 rfl rfl ?_
  refine tSR <| n_box rfl rfl rfl rfl fun b1 => rA rfl rfl <| rN <| tSR <| rA rfl rfl <| rN <| tS <| tSR <| rM rfl rfl <| ARun.qv (t_len rfl) rfl <| rM rfl rfl <| rN <| ATodo.block <| ATodo.loopI (fun x : (List Image) × Int => campaign_costs_b1 p0x0 p1x0 p2x0 x.1 x.2) (fun x σ' => ∃ (b5 : Bk), σ' = ⟨121, [(1, .str p1x0), (5, .ptr b1 0), (7, .sl 6 b5 0 x.1.length), (23, .list 6 (p0x0.map Image.av)), (24, I (p0x0.length : Int)), (25, I x.2)], [(b1, .cells [I p2x0.Major, I p2x0.Minor, I p2x0.Patch]), (b5, .arr 6 (x.1.map Image.av))]⟩) h ?_ ?_
  · exact ImpX.arr (s := 7) 6 rfl fun b8 => ImpX.lq [1, 0] ⟨b8, rfl⟩ rfl rfl
  · intro x z1 σ' J1 hmk h hJ1 hA1
    obtain ⟨l6, n7⟩ := x
    obtain ⟨b5, rfl⟩ := hmk
    replace h : campaign_costs_b1 p0x0 p1x0 p2x0 l6 n7 = some z1 := h
    unfold campaign_costs_b1 at h
    refine tSR <| ARun.qv (q_lss rfl rfl) rfl <| rN <| tS <| ATodo.cond_d rfl (fun hc => ?_) (fun hc => ?_)
    · refine have h := iteT hc h; tK <| tS <| ATodo.block <| tSR <| bndE h fun v9 e1 h => ARun.qv (t_index rfl rfl rfl e1 rfl rfl) rfl <| ARun.qv (q_load_rptr_agg rfl rfl rfl) rfl <| n_alloc rfl rfl rfl rfl fun b10 => n_store_ptr rfl rfl rfl rfl .p0 rfl rfl <| rN <| tSR <| rF rfl rfl rfl <| rL rfl rfl .p0 rfl rfl <| rM rfl rfl <| bndE h fun v11 e2 h => r_callp rfl (slices_Contains_string_string_c e2) (CoL.refl _) rfl <| rN <| ATodo.cut (fun σ' => ∃ (b12 : Bk) (l13 : List Image), campaign_costs_j1 n7 l13 = some z1 ∧ σ' = ⟨121, [(1, .str p1x0), (5, .ptr b1 0), (7, .sl 6 b12 0 l13.length), (23, .list 6 (p0x0.map Image.av)), (24, I (p0x0.length : Int)), (25, I n7)], [(b1, .cells [I p2x0.Major, I p2x0.Minor, I p2x0.Patch]), (b12, .arr 6 (l13.map Image.av))]⟩) ?_ ?_
      · refine ATodo.cond rfl (fun hc => ?_) (fun hc => ?_)
        · exact have h := iteT hc h; tR <| rM rfl rfl <| ARun.qv (q_load_ptr_all rfl rfl .p0 rfl) rfl <| n_buildSliceL (xs := ([v9] : List Image).map Image.av) rfl rfl rfl rfl rfl rfl <| bndE h fun l14 e3 h => t_append (g := Image.av) rfl rfl rfl rfl rfl rfl rfl rfl (.list _) e3 (fun _ => .p2) rfl fun b15 => rA rfl rfl <| rN <| ATodo.stop <| ImpX.lq [1, 1] ⟨b15, l14, h, rfl⟩ rfl rfl
        · exact have h := iteFb hc h; tK <| ATodo.stop <| ImpX.lq [1, 1] ⟨b5, l6, h, rfl⟩ rfl rfl
      · rintro σ' ⟨b12, l13, h, rfl⟩
        unfold campaign_costs_j1 at h
        refine ATodo.blk <| tR <| ARun.qv (q_addw rfl rfl) rfl <| rM rfl rfl <| rN <| ATodo.stop <| ?_
        obtain rfl := Option.some.inj h
        exact hJ1 _ _ rfl <| ImpX.lq [0, 0] ⟨b12, rfl⟩ rfl rfl
    · refine have h := iteF hc h; ATodo.exit rfl <| have h := outL h hA1; ?_
      unfold campaign_costs_k6 at h
      refine tSR <| rM rfl rfl <| ARun.qv (t_len_sl rfl) rfl <| bndE h fun l16 e4 h => t_makeSliceN (g := (encL 6 Image.av)) (Z := ([] : List Image)) rfl rfl rfl rfl rfl rfl rfl rfl rfl e4 fun b17 => rA rfl rfl <| rN <| tS <| tSR <| rM rfl rfl <| ARun.qv (t_len_sl rfl) rfl <| rM rfl rfl <| rN <| ATodo.block <| ATodo.loopI (fun x : (List (List Image)) × Int => campaign_costs_b2 p1x0 p2x0 l6 x.1 x.2) (fun x σ' => σ' = ⟨121, [(1, .str p1x0), (5, .ptr b1 0), (7, .sl 6 b5 0 l6.length), (10, .sl 1 b17 0 x.1.length), (41, .sl 6 b5 0 l6.length), (42, I (l6.length : Int)), (43, I x.2)], [(b1, .cells [I p2x0.Major, I p2x0.Minor, I p2x0.Patch]), (b5, .fro 6 (l6.map Image.av)), (b17, .arr 1 (x.1.map (encL 6 Image.av)))]⟩) h ?_ ?_
      · exact ImpX.freeze .p2 <| ImpX.lq [1, 1, 0] rfl rfl rfl
      · intro x z2 σ' J2 hmk h hJ2 hA2
        obtain ⟨l20, n21⟩ := x
        obtain rfl := hmk
        replace h : campaign_costs_b2 p1x0 p2x0 l6 l20 n21 = some z2 := h
        unfold campaign_costs_b2 at h
        refine tSR <| ARun.qv (q_lss rfl rfl) rfl <| rN <| tS <| ATodo.cond_d rfl (fun hc => ?_) (fun hc => ?_)
        · refine have h := iteT hc h; tK <| tS <| ATodo.block <| tSR <| rM rfl rfl <| bndE h fun v22 e5 h => ARun.qv (t_index_sl rfl rfl rfl e5) rfl <| ARun.qv (t_load_aptr_agg (g := Image.av) rfl rfl (.inr .p1) rfl e5 rfl) rfl <| n_alloc rfl rfl rfl rfl fun b23 => rA rfl rfl <| n_store_ptr rfl rfl rfl rfl .p0 rfl rfl <| rN <| tR <| rM rfl rfl <| rM rfl rfl <| rM rfl rfl <| rM rfl rfl <| rF rfl rfl rfl <| ARun.qv (n_load_ptr_part rfl rfl .p0 rfl rfl) rfl <| bndE h fun v24 e6 h => t_call1 rfl (campaign_taken_c e6) (.cons (Co.froT .p2) (.cons (.refl _) (.cons (.refl _) .nil))) .nil (fun _ => rfl) rfl fun b25 => bndE h fun v26 e7 h => ARun.qv (t_index_sl rfl rfl rfl e7) rfl <| ARun.ghost <| ImpX.freeze .p0 <| ImpX.here <| ARun.ghost <| ImpX.cox (s := 54) (av' := .list 6 (v24.map Image.av)) rfl (.co (Co.froT .p0)) <| ImpX.here <| t_store_aptr1 (g := (encL 6 Image.av)) (el' := v24) rfl rfl rfl rfl e7 rfl .p4 rfl <| ARun.ghost <| ImpX.eqs (s := 10) (av' := .sl 1 b17 0 (l20.set n21.toNat v24).length) rfl (by rw [List.length_set]) <| ImpX.here <| ARun.ghost <| ImpX.eqs (s := 48) (av' := .sl 1 b17 0 (l20.set n21.toNat v24).length) rfl (by rw [List.length_set]) <| ImpX.here <| rN <| ATodo.blk <| tR <| ARun.qv (q_addw rfl rfl) rfl <| rM rfl rfl <| rN <| ATodo.stop <| ?_
          obtain rfl := Option.some.inj h
          exact hJ2 _ _ rfl <| ImpX.lq [2, 2, 2] rfl rfl rfl
        · refine have h := iteF hc h; ATodo.exit rfl <| have h := outL h hA2; tSR <| t_makeMap rfl fun b27 => ARun.qv (q_load_ptr_all rfl rfl .p1 rfl) rfl <| ARun.qv (n_build rfl rfl rfl rfl rfl) rfl <| t_insert (gk := Version.av) (gv := Campaign_cost.av) (M := ([] : List (Version × Campaign_cost))) (key := p2x0) (v := (⟨(0 : Int), (0 : Int)⟩ : Campaign_cost)) rfl rfl rfl rfl .p0 <| rM rfl rfl <| rA rfl rfl <| rN <| tS <| tSR <| rA rfl rfl <| rN <| ATodo.block <| ATodo.loopI (fun x : (List (Version × Campaign_cost)) × Bool => campaign_costs_b3 l6 l20 x.1 x.2) (fun x σ' => σ' = ⟨121, [(7, .sl 6 b5 0 l6.length), (10, .sl 1 b17 0 l20.length), (13, .mref b27), (14, .bool x.2)], [(b5, .fro 6 (l6.map Image.av)), (b17, .arr 1 (l20.map (encL 6 Image.av))), (b27, .mp (x.1.map (fun e => (Version.av e.1, Campaign_cost.av e.2))))]⟩) h ?_ ?_
          · exact ImpX.lq [2, 2, 0] rfl rfl rfl
          · intro x z3 σ' J3 hmk h hJ3 hA3
            obtain ⟨l30, c31⟩ := x
            obtain rfl := hmk
            replace h : campaign_costs_b3 l6 l20 l30 c31 = some z3 := h
            unfold campaign_costs_b3 at h
            refine tS <| tSR <| rM rfl rfl <| rN <| ATodo.cond rfl (fun hc => ?_) (fun hc => ?_)
            · refine have h := iteT hc h; tK <| ATodo.block <| tSR <| rA rfl rfl <| rN <| tSR <| rM rfl rfl <| ARun.qv (t_len_sl rfl) rfl <| rM rfl rfl <| rN <| ATodo.block <| ATodo.loopI (fun x : (List (Version × Campaign_cost)) × Bool × Int => campaign_costs_b4 l6 l20 x.1 x.2.1 x.2.2) (fun x σ' => σ' = ⟨121, [(7, .sl 6 b5 0 l6.length), (10, .sl 1 b17 0 l20.length), (13, .mref b27), (14, .bool x.2.1), (62, .sl 6 b5 0 l6.length), (63, I (l6.length : Int)), (64, I x.2.2)], [(b5, .fro 6 (l6.map Image.av)), (b17, .arr 1 (l20.map (encL 6 Image.av))), (b27, .mp (x.1.map (fun e => (Version.av e.1, Campaign_cost.av e.2))))]⟩) h ?_ ?_
              · exact ImpX.lq [0, 0, 0] rfl rfl rfl
              · intro x z4 σ' J4 hmk h hJ4 hA4
                obtain ⟨l35, c36, n37⟩ := x
                obtain rfl := hmk
                replace h : campaign_costs_b4 l6 l20 l35 c36 n37 = some z4 := h
                unfold campaign_costs_b4 at h
                refine tSR <| ARun.qv (q_lss rfl rfl) rfl <| rN <| tS <| ATodo.cond_d rfl (fun hc => ?_) (fun hc => ?_)
                · refine have h := iteT hc h; tK <| tS <| ATodo.block <| tSR <| rM rfl rfl <| bndE h fun v38 e8 h => ARun.qv (t_index_sl rfl rfl rfl e8) rfl <| ARun.qv (t_load_aptr_agg (g := Image.av) rfl rfl (.inr .p0) rfl e8 rfl) rfl <| n_alloc rfl rfl rfl rfl fun b39 => rA rfl rfl <| n_store_ptr rfl rfl rfl rfl .p0 rfl rfl <| rN <| tSR <| rM rfl rfl <| rF rfl rfl rfl <| ARun.qv (n_load_ptr_part rfl rfl .p0 rfl rfl) rfl <| bndE h fun v40 e9 h => ARun.qv (t_lookup2 (gk := Version.av) (gv := Campaign_cost.av) (M := l35) (key := v38.Version) (Z := (⟨(0 : Int), (0 : Int)⟩ : Campaign_cost)) rfl rfl .p3 rfl rfl rfl e9 rfl) rfl <| rM rfl rfl <| rX rfl rfl rfl <| rX rfl rfl rfl <| n_alloc rfl rfl rfl rfl fun b41 => n_store_ptr rfl rfl rfl rfl .p0 rfl rfl <| rA rfl rfl <| rN <| tS <| tSR <| rM rfl rfl <| rM rfl rfl <| bndE h fun v42 e10 h => ARun.qv (t_index_sl rfl rfl rfl e10) rfl <| ARun.qv (t_load_aptr (g := (encL 6 Image.av)) rfl rfl (.inl .p3) e10 rfl) rfl <| ARun.qv (t_len rfl) rfl <| rM rfl rfl <| rN <| ATodo.block <| ATodo.loopI (fun x : Bool × Int × Int × Bool × Int => campaign_costs_b5 l35 n37 v38 v42 x.1 x.2.1 x.2.2.1 x.2.2.2.1 x.2.2.2.2) (fun x σ' => σ' = ⟨121, [(7, .sl 6 b5 0 l6.length), (10, .sl 1 b17 0 l20.length), (13, .mref b27), (14, .bool x.1), (16, .ptr b39 0), (17, .ptr b41 0), (18, .bool x.2.2.2.1), (62, .sl 6 b5 0 l6.length), (63, I (l6.length : Int)), (64, I n37), (79, .list 6 (v42.map Image.av)), (80, I (v42.length : Int)), (81, I x.2.2.2.2)], [(b5, .fro 6 (l6.map Image.av)), (b17, .arr 1 (l20.map (encL 6 Image.av))), (b27, .mp (l35.map (fun e => (Version.av e.1, Campaign_cost.av e.2)))), (b39, .cells [I v38.Version.Major, I v38.Version.Minor, I v38.Version.Patch, .list 1 (v38.Models.map AV.str), .list 6 (v38.From.map Range.av), I v38.Size]), (b41, .cells [I x.2.1, I x.2.2.1])]⟩) h ?_ ?_
                  · exact ImpX.lq [2, 2, 2, 1, 0] rfl rfl rfl
                  · intro x z5 σ' J5 hmk h hJ5 hA5
                    obtain ⟨c48, n49, n50, c51, n52⟩ := x
                    obtain rfl := hmk
                    replace h : campaign_costs_b5 l35 n37 v38 v42 c48 n49 n50 c51 n52 = some z5 := h
                    unfold campaign_costs_b5 at h
                    refine tSR <| ARun.qv (q_lss rfl rfl) rfl <| rN <| tS <| ATodo.cond_d rfl (fun hc => ?_) (fun hc => ?_)
                    · refine have h := iteT hc h; tK <| tS <| ATodo.block <| tSR <| bndE h fun v53 e11 h => ARun.qv (t_index rfl rfl rfl e11 rfl rfl) rfl <| ARun.qv (q_load_rptr_agg rfl rfl rfl) rfl <| n_alloc rfl rfl rfl rfl fun b54 => n_store_ptr rfl rfl rfl rfl .p0 rfl rfl <| rN <| tSR <| rM rfl rfl <| rF rfl rfl rfl <| ARun.qv (n_load_ptr_part rfl rfl .p0 rfl rfl) rfl <| bndE h fun v55 e12 h => ARun.qv (t_lookup2 (gk := Version.av) (gv := Campaign_cost.av) (M := l35) (key := v53.Version) (Z := (⟨(0 : Int), (0 : Int)⟩ : Campaign_cost)) rfl rfl .p3 rfl rfl rfl e12 rfl) rfl <| rM rfl rfl <| rX rfl rfl rfl <| rX rfl rfl rfl <| n_alloc rfl rfl rfl rfl fun b56 => n_store_ptr rfl rfl rfl rfl .p0 rfl rfl <| rA rfl rfl <| rN <| tSR <| rF rfl rfl rfl <| rL rfl rfl .p0 rfl rfl <| ARun.qv (q_addw rfl rfl) rfl <| rF rfl rfl rfl <| rL rfl rfl .p0 rfl rfl <| rF rfl rfl rfl <| rL rfl rfl .p1 rfl rfl <| ARun.qv (q_addw rfl rfl) rfl <| ARun.qv (n_build rfl rfl rfl rfl rfl) rfl <| n_store_ptr rfl rfl rfl rfl .p0 rfl rfl <| rN <| tS <| ATodo.cut (fun σ' => ∃ (c57 : Bool), campaign_costs_j2 c48 n49 n50 c51 n52 v53 v55 c57 = some z5 ∧ σ' = ⟨121, [(7, .sl 6 b5 0 l6.length), (10, .sl 1 b17 0 l20.length), (13, .mref b27), (14, .bool c48), (16, .ptr b39 0), (17, .ptr b41 0), (18, .bool c51), (21, .ptr b56 0), (62, .sl 6 b5 0 l6.length), (63, I (l6.length : Int)), (64, I n37), (79, .list 6 (v42.map Image.av)), (80, I (v42.length : Int)), (81, I n52), (111, .bool c57)], [(b5, .fro 6 (l6.map Image.av)), (b17, .arr 1 (l20.map (encL 6 Image.av))), (b27, .mp (l35.map (fun e => (Version.av e.1, Campaign_cost.av e.2)))), (b39, .cells [I v38.Version.Major, I v38.Version.Minor, I v38.Version.Patch, .list 1 (v38.Models.map AV.str), .list 6 (v38.From.map Range.av), I v38.Size]), (b41, .cells [I n49, I n50]), (b56, .cells [I (w64 (v55.1.steps_ + (1 : Int))), I (w64 (v55.1.size_ + v53.Size))])]⟩) ?_ ?_
                      · refine tR <| rM rfl rfl <| rM rfl rfl <| ARun.guard rfl rfl rfl (fun hc => ?_) (fun hc => ?_)
                        · refine have h := iteT hc h; rM rfl rfl <| rY rfl rfl rfl <| ARun.qv (q_not rfl) rfl <| rY rfl rfl rfl <| rM rfl rfl <| ARun.guard rfl rfl rfl (fun hc => ?_) (fun hc => ?_)
                          · exact have h := iteFb hc h; ARun.qv (q_load_ptr_all rfl rfl .p0 rfl) rfl <| rY rfl rfl rfl <| ARun.qv (q_load_ptr_all rfl rfl .p6 rfl) rfl <| rY rfl rfl rfl <| bndE h fun v58 e13 h => r_callp rfl (campaign_byCost_c e13) (CoL.refl _) rfl <| rY rfl rfl rfl <| ARun.qv (q_lss rfl rfl) rfl <| rY rfl rfl rfl <| rE rfl rfl rfl <| rT rfl rfl rfl <| rN <| ATodo.stop <| ImpX.lq [2, 2, 2, 2, 2, 0] ⟨decide (v58 < (0 : Int)), h, rfl⟩ rfl rfl
                          · exact have h := iteT hc h; rG rfl rfl rfl rfl <| rG rfl rfl rfl rfl <| rG rfl rfl rfl rfl <| rY rfl rfl rfl <| rT rfl rfl rfl <| rT rfl rfl rfl <| rN <| ATodo.stop <| ImpX.lq [2, 2, 2, 2, 2, 0] ⟨true, h, rfl⟩ rfl rfl
                        · exact have h := iteFb hc h; rG rfl rfl rfl rfl <| rG rfl rfl rfl rfl <| ARun.guard_und rfl rfl rfl <| ARun.guard_und rfl rfl rfl <| ARun.guard_und rfl rfl rfl <| ARun.guard_und rfl rfl rfl <| rG rfl rfl rfl rfl <| rE rfl rfl rfl <| rN <| ATodo.stop <| ImpX.lq [2, 2, 2, 2, 2, 0] ⟨false, h, rfl⟩ rfl rfl
                      · rintro σ' ⟨c57, h, rfl⟩
                        unfold campaign_costs_j2 at h
                        refine ATodo.cut (fun σ' => ∃ (c59 : Bool) (n60 : Int) (n61 : Int) (c62 : Bool), campaign_costs_j3 n52 c59 n60 n61 c62 = some z5 ∧ σ' = ⟨121, [(7, .sl 6 b5 0 l6.length), (10, .sl 1 b17 0 l20.length), (13, .mref b27), (14, .bool c59), (16, .ptr b39 0), (17, .ptr b41 0), (18, .bool c62), (62, .sl 6 b5 0 l6.length), (63, I (l6.length : Int)), (64, I n37), (79, .list 6 (v42.map Image.av)), (80, I (v42.length : Int)), (81, I n52)], [(b5, .fro 6 (l6.map Image.av)), (b17, .arr 1 (l20.map (encL 6 Image.av))), (b27, .mp (l35.map (fun e => (Version.av e.1, Campaign_cost.av e.2)))), (b39, .cells [I v38.Version.Major, I v38.Version.Minor, I v38.Version.Patch, .list 1 (v38.Models.map AV.str), .list 6 (v38.From.map Range.av), I v38.Size]), (b41, .cells [I n60, I n61])]⟩) ?_ ?_
                        · refine ATodo.cond rfl (fun hc => ?_) (fun hc => ?_)
                          · exact have h := iteT hc h; tR <| ARun.qv (q_load_ptr_all rfl rfl .p5 rfl) rfl <| n_store_ptr rfl rfl rfl rfl .p4 rfl rfl <| rA rfl rfl <| rA rfl rfl <| rN <| ATodo.stop <| ImpX.lq [0, 0, 0, 0, 0] ⟨true, w64 (v55.1.steps_ + (1 : Int)), w64 (v55.1.size_ + v53.Size), true, h, rfl⟩ rfl rfl
                          · exact have h := iteFb hc h; tK <| ATodo.stop <| ImpX.lq [0, 0, 0, 0, 0] ⟨c48, n49, n50, c51, h, rfl⟩ rfl rfl
                        · rintro σ' ⟨c59, n60, n61, c62, h, rfl⟩
                          unfold campaign_costs_j3 at h
                          refine ATodo.blk <| tR <| ARun.qv (q_addw rfl rfl) rfl <| rM rfl rfl <| rN <| ATodo.stop <| ?_
                          obtain rfl := Option.some.inj h
                          exact hJ5 _ _ rfl <| ImpX.lq [0, 0, 0, 0, 0] rfl rfl rfl
                    · refine have h := iteF hc h; ATodo.exit rfl <| have h := outL h hA5; ?_
                      unfold campaign_costs_k5 at h
                      refine tSR <| rM rfl rfl <| rN <| ATodo.cut (fun σ' => ∃ (l63 : List (Version × Campaign_cost)), campaign_costs_j4 n37 c48 l63 = some z4 ∧ σ' = ⟨121, [(7, .sl 6 b5 0 l6.length), (10, .sl 1 b17 0 l20.length), (13, .mref b27), (14, .bool c48), (62, .sl 6 b5 0 l6.length), (63, I (l6.length : Int)), (64, I n37)], [(b5, .fro 6 (l6.map Image.av)), (b17, .arr 1 (l20.map (encL 6 Image.av))), (b27, .mp (l63.map (fun e => (Version.av e.1, Campaign_cost.av e.2))))]⟩) ?_ ?_
                      · refine ATodo.cond rfl (fun hc => ?_) (fun hc => ?_)
                        · exact have h := iteT hc h; tR <| rM rfl rfl <| rF rfl rfl rfl <| ARun.qv (n_load_ptr_part rfl rfl .p3 rfl rfl) rfl <| ARun.qv (q_load_ptr_all rfl rfl .p4 rfl) rfl <| t_mapUpdate (gk := Version.av) (gv := Campaign_cost.av) (M := l35) (key := v38.Version) (v := (⟨n49, n50⟩ : Campaign_cost)) rfl rfl rfl rfl .p2 <| rN <| ATodo.stop <| ImpX.lq [0, 0, 0] ⟨mset l35 v38.Version (⟨n49, n50⟩ : Campaign_cost), h, rfl⟩ rfl rfl
                        · exact have h := iteFb hc h; tK <| ATodo.stop <| ImpX.lq [0, 0, 0] ⟨l35, h, rfl⟩ rfl rfl
                      · rintro σ' ⟨l63, h, rfl⟩
                        unfold campaign_costs_j4 at h
                        refine ATodo.blk <| tR <| ARun.qv (q_addw rfl rfl) rfl <| rM rfl rfl <| rN <| ATodo.stop <| ?_
                        obtain rfl := Option.some.inj h
                        exact hJ4 _ _ rfl <| ImpX.lq [0, 0, 0] rfl rfl rfl
                · refine have h := iteF hc h; ATodo.exit rfl <| have h := outL h hA4; ATodo.blk <| ATodo.stop <| ?_
                  obtain rfl := Option.some.inj h
                  exact hJ3 _ _ rfl <| ImpX.lq [0, 0, 0] rfl rfl rfl
            · refine have h := iteFb hc h; ATodo.exit rfl <| have h := outL h hA3; tSR <| rM rfl rfl <| rA rfl rfl <| rN <| ATodo.ret <| ?_
              obtain rfl := Option.some.inj h
              exact ImpX.here ⟨_, .cons (.tmp _ _ rfl) .nil, _, .cons .p2 .nil, ⟨b27, rfl, rfl⟩⟩

set_option maxHeartbeats 4000000 in
theorem campaign_way_c [GI : GTab] {b_4 : Bk} {p0x0 : List Image} {p1x0 : Str} {p2x0 : Version} {p3x0 : Version} {p4x0 : List (Version × Campaign_cost)} {r : (List Version) × Bool} (h : campaign_way p0x0 p1x0 p2x0 p3x0 p4x0 = some r) : ACall Tryz.prog 103 [.list 6 (p0x0.map Image.av), .str p1x0, .agg [I p2x0.Major, I p2x0.Minor, I p2x0.Patch], .agg [I p3x0.Major, I p3x0.Minor, I p3x0.Patch], .mref b_4] [(b_4, .mp (p4x0.map (fun e => (Version.av e.1, Campaign_cost.av e.2))))] (T1 (fun d_0 => [(b_4, .mp (p4x0.map (fun e => (Version.av e.1, Campaign_cost.av e.2)))), (d_0, .arr 3 (r.1.map Version.av))]) (fun d_0 => .tup [.sl 3 d_0 0 r.1.length, .bool r.2])) := by
  unfold campaign_way at h
  refine ACall.lessH ?_
  refine ACall.bodyN Tryz.func103 rfl Tryz.ntmps103 Tryz.results103 rfl rfl ?_
  refine tSR <| n_box rfl rfl rfl rfl fun b1 => n_box rfl rfl rfl rfl fun b2 => rA rfl rfl <| rA rfl rfl <| rN <| tSR <| rA rfl rfl <| rN <| tS <| tSR <| ARun.qv (q_load_ptr_all rfl rfl .p1 rfl) rfl <| n_alloc rfl rfl rfl rfl fun b3 => n_store_ptr rfl rfl rfl rfl .p0 rfl rfl <| rN <| ATodo.block <| ATodo.loopI (fun x : (List Version) × Int × Int × Int => campaign_way_b1 p0x0 p1x0 p3x0 p4x0 x.1 x.2.1 x.2.2.1 x.2.2.2) (fun x σ' => ∃ (b10 : Bk) (b12 : Bk), σ' = ⟨74, [(0, .list 6 (p0x0.map Image.av)), (1, .str p1x0), (4, .mref b_4), (8, .ptr b2 0), (12, .sl 3 b10 0 x.1.length), (13, .ptr b12 0)], [(b_4, .mp (p4x0.map (fun e => (Version.av e.1, Campaign_cost.av e.2)))), (b2, .cells [I p3x0.Major, I p3x0.Minor, I p3x0.Patch]), (b10, .arr 3 (x.1.map Version.av)), (b12, .cells [I x.2.1, I x.2.2.1, I x.2.2.2])]⟩) h ?_ ?_
  · exact ImpX.arr (s := 12) 3 rfl fun b16 => ImpX.lq [4, 2, 0, 0] ⟨b16, b3, rfl⟩ rfl rfl
  · intro x z1 σ' J1 hmk h hJ1 hA1
    obtain ⟨l11, n13, n14, n15⟩ := x
    obtain ⟨b10, b12, rfl⟩ := hmk
    replace h : campaign_way_b1 p0x0 p1x0 p3x0 p4x0 l11 n13 n14 n15 = some z1 := h
    unfold campaign_way_b1 at h
    refine tS <| tSR <| ARun.qv (q_load_ptr_all rfl rfl .p3 rfl) rfl <| ARun.qv (q_load_ptr_all rfl rfl .p1 rfl) rfl <| ARun.qv (t_tne (g := Version.av) (X := (⟨n13, n14, n15⟩ : Version)) (Y := p3x0) rfl rfl rfl rfl rfl) rfl <| rN <| ATodo.cond_d rfl (fun hc => ?_) (fun hc => ?_)
    · refine have h := iteT hc h; tK <| tS <| ATodo.block <| tSR <| n_alloc rfl rfl rfl rfl fun b17 => rN <| tSR <| n_alloc rfl rfl rfl rfl fun b18 => rN <| tSR <| rA rfl rfl <| rN <| tS <| tSR <| rM rfl rfl <| rM rfl rfl <| ARun.qv (q_load_ptr_all rfl rfl .p5 rfl) rfl <| bndE h fun v19 e1 h => t_call1 rfl (campaign_taken_c e1) (CoL.refl _) .nil (fun _ => rfl) rfl fun b20 => ARun.qv (t_len_sl rfl) rfl <| rM rfl rfl <| rN <| ATodo.block <| ATodo.loopI (fun x : Int × Int × Int × Int × Int × Bool × Int => campaign_way_b2 p4x0 l11 v19 x.1 x.2.1 x.2.2.1 x.2.2.2.1 x.2.2.2.2.1 x.2.2.2.2.2.1 x.2.2.2.2.2.2) (fun x σ' => σ' = ⟨74, [(0, .list 6 (p0x0.map Image.av)), (1, .str p1x0), (4, .mref b_4), (8, .ptr b2 0), (12, .sl 3 b10 0 l11.length), (13, .ptr b12 0), (14, .ptr b17 0), (15, .ptr b18 0), (16, .bool x.2.2.2.2.2.1), (28, .sl 6 b20 0 v19.length), (29, I (v19.length : Int)), (30, I x.2.2.2.2.2.2)], [(b_4, .mp (p4x0.map (fun e => (Version.av e.1, Campaign_cost.av e.2)))), (b2, .cells [I p3x0.Major, I p3x0.Minor, I p3x0.Patch]), (b10, .arr 3 (l11.map Version.av)), (b12, .cells [I n13, I n14, I n15]), (b17, .cells [I x.1, I x.2.1, I x.2.2.1]), (b18, .cells [I x.2.2.2.1, I x.2.2.2.2.1]), (b20, .arr 6 (v19.map Image.av))]⟩) h ?_ ?_
      · exact ImpX.lq [3, 3, 3, 3, 2, 1, 0] rfl rfl rfl
      · intro x z2 σ' J2 hmk h hJ2 hA2
        obtain ⟨n28, n29, n30, n31, n32, c33, n34⟩ := x
        obtain rfl := hmk
        replace h : campaign_way_b2 p4x0 l11 v19 n28 n29 n30 n31 n32 c33 n34 = some z2 := h
        unfold campaign_way_b2 at h
        refine tSR <| ARun.qv (q_lss rfl rfl) rfl <| rN <| tS <| ATodo.cond_d rfl (fun hc => ?_) (fun hc => ?_)
        · refine have h := iteT hc h; tK <| tS <| ATodo.block <| tSR <| bndE h fun v35 e2 h => ARun.qv (t_index_sl rfl rfl rfl e2) rfl <| ARun.qv (t_load_aptr_agg (g := Image.av) rfl rfl (.inl .p6) rfl e2 rfl) rfl <| n_alloc rfl rfl rfl rfl fun b36 => n_store_ptr rfl rfl rfl rfl .p0 rfl rfl <| rN <| tSR <| rM rfl rfl <| rF rfl rfl rfl <| ARun.qv (n_load_ptr_part rfl rfl .p0 rfl rfl) rfl <| bndE h fun v37 e3 h => ARun.qv (t_lookup2 (gk := Version.av) (gv := Campaign_cost.av) (M := p4x0) (key := v35.Version) (Z := (⟨(0 : Int), (0 : Int)⟩ : Campaign_cost)) rfl rfl .p1 rfl rfl rfl e3 rfl) rfl <| rM rfl rfl <| rX rfl rfl rfl <| rX rfl rfl rfl <| n_alloc rfl rfl rfl rfl fun b38 => n_store_ptr rfl rfl rfl rfl .p0 rfl rfl <| rA rfl rfl <| rN <| tSR <| rF rfl rfl rfl <| rL rfl rfl .p0 rfl rfl <| ARun.qv (q_addw rfl rfl) rfl <| rF rfl rfl rfl <| rL rfl rfl .p0 rfl rfl <| rF rfl rfl rfl <| rL rfl rfl .p1 rfl rfl <| ARun.qv (q_addw rfl rfl) rfl <| ARun.qv (n_build rfl rfl rfl rfl rfl) rfl <| n_store_ptr rfl rfl rfl rfl .p0 rfl rfl <| rN <| tS <| ATodo.cut (fun σ' => ∃ (c39 : Bool), campaign_way_j1 n28 n29 n30 n31 n32 c33 n34 v35 v37 c39 = some z2 ∧ σ' = ⟨74, [(0, .list 6 (p0x0.map Image.av)), (1, .str p1x0), (4, .mref b_4), (8, .ptr b2 0), (12, .sl 3 b10 0 l11.length), (13, .ptr b12 0), (14, .ptr b17 0), (15, .ptr b18 0), (16, .bool c33), (18, .ptr b36 0), (19, .ptr b38 0), (28, .sl 6 b20 0 v19.length), (29, I (v19.length : Int)), (30, I n34), (60, .bool c39)], [(b_4, .mp (p4x0.map (fun e => (Version.av e.1, Campaign_cost.av e.2)))), (b2, .cells [I p3x0.Major, I p3x0.Minor, I p3x0.Patch]), (b10, .arr 3 (l11.map Version.av)), (b12, .cells [I n13, I n14, I n15]), (b17, .cells [I n28, I n29, I n30]), (b18, .cells [I n31, I n32]), (b36, .cells [I v35.Version.Major, I v35.Version.Minor, I v35.Version.Patch, .list 1 (v35.Models.map AV.str), .list 6 (v35.From.map Range.av), I v35.Size]), (b38, .cells [I (w64 (v37.1.steps_ + (1 : Int))), I (w64 (v37.1.size_ + v35.Size))]), (b20, .arr 6 (v19.map Image.av))]⟩) ?_ ?_
          · refine tR <| rM rfl rfl <| rM rfl rfl <| ARun.guard rfl rfl rfl (fun hc => ?_) (fun hc => ?_)
            · refine have h := iteT hc h; rM rfl rfl <| rY rfl rfl rfl <| ARun.qv (q_not rfl) rfl <| rY rfl rfl rfl <| rM rfl rfl <| ARun.guard rfl rfl rfl (fun hc => ?_) (fun hc => ?_)
              · exact have h := iteFb hc h; ARun.qv (q_load_ptr_all rfl rfl .p0 rfl) rfl <| rY rfl rfl rfl <| ARun.qv (q_load_ptr_all rfl rfl .p7 rfl) rfl <| rY rfl rfl rfl <| bndE h fun v40 e4 h => r_callp rfl (campaign_byCost_c e4) (CoL.refl _) rfl <| rY rfl rfl rfl <| ARun.qv (q_lss rfl rfl) rfl <| rY rfl rfl rfl <| rE rfl rfl rfl <| rT rfl rfl rfl <| rN <| ATodo.stop <| ImpX.lq [2, 2, 2, 2, 2, 2, 1, 0, 0] ⟨decide (v40 < (0 : Int)), h, rfl⟩ rfl rfl
              · exact have h := iteT hc h; rG rfl rfl rfl rfl <| rG rfl rfl rfl rfl <| rG rfl rfl rfl rfl <| rY rfl rfl rfl <| rT rfl rfl rfl <| rT rfl rfl rfl <| rN <| ATodo.stop <| ImpX.lq [2, 2, 2, 2, 2, 2, 1, 0, 0] ⟨true, h, rfl⟩ rfl rfl
            · exact have h := iteFb hc h; rG rfl rfl rfl rfl <| rG rfl rfl rfl rfl <| ARun.guard_und rfl rfl rfl <| ARun.guard_und rfl rfl rfl <| ARun.guard_und rfl rfl rfl <| ARun.guard_und rfl rfl rfl <| rG rfl rfl rfl rfl <| rE rfl rfl rfl <| rN <| ATodo.stop <| ImpX.lq [2, 2, 2, 2, 2, 2, 1, 0, 0] ⟨false, h, rfl⟩ rfl rfl
          · rintro σ' ⟨c39, h, rfl⟩
            unfold campaign_way_j1 at h
            refine ATodo.cut (fun σ' => ∃ (n41 : Int) (n42 : Int) (n43 : Int) (n44 : Int) (n45 : Int) (c46 : Bool), campaign_way_j2 n34 n41 n42 n43 n44 n45 c46 = some z2 ∧ σ' = ⟨74, [(0, .list 6 (p0x0.map Image.av)), (1, .str p1x0), (4, .mref b_4), (8, .ptr b2 0), (12, .sl 3 b10 0 l11.length), (13, .ptr b12 0), (14, .ptr b17 0), (15, .ptr b18 0), (16, .bool c46), (28, .sl 6 b20 0 v19.length), (29, I (v19.length : Int)), (30, I n34)], [(b_4, .mp (p4x0.map (fun e => (Version.av e.1, Campaign_cost.av e.2)))), (b2, .cells [I p3x0.Major, I p3x0.Minor, I p3x0.Patch]), (b10, .arr 3 (l11.map Version.av)), (b12, .cells [I n13, I n14, I n15]), (b17, .cells [I n41, I n42, I n43]), (b18, .cells [I n44, I n45]), (b20, .arr 6 (v19.map Image.av))]⟩) ?_ ?_
            · refine ATodo.cond rfl (fun hc => ?_) (fun hc => ?_)
              · refine have h := iteT hc h; ATodo.regionT (id := 13) (A := [0, 1, 0, 3, 15, 31]) (H0 := [(b17, .cells [I n28, I n29, I n30])]) (HH := fun β => [(b17, .cells [I v35.Version.Major, I v35.Version.Minor, I v35.Version.Patch]), (b_4, .mp (p4x0.map (fun e => (Version.av e.1, Campaign_cost.av e.2)))), (b2, .cells [I p3x0.Major, I p3x0.Minor, I p3x0.Patch]), (b10, .arr 3 (l11.map Version.av)), (b12, .cells [I n13, I n14, I n15]), (b18, .cells [I n31, I n32]), (b36, .cells [I v35.Version.Major, I v35.Version.Minor, I v35.Version.Patch, .list 1 (v35.Models.map AV.str), .list 6 (v35.From.map Range.av), I v35.Size]), (b38, .cells [I (w64 (v37.1.steps_ + (1 : Int))), I (w64 (v37.1.size_ + v35.Size))]), (b20, .arr 6 (v19.map Image.av))]) 4 mixed rfl (by kernel_rfl) (by kernel_rfl) [⟨none, some 3, [], fun _ => (b17, .cells [I n28, I n29, I n30]), none⟩, ⟨some 3, none, [], fun _ => (b17, .cells [I v35.Version.Major, I v35.Version.Minor, I v35.Version.Patch]), none⟩] [] rfl (by kernel_rfl) rfl (.cons .p4 .nil) (fun _ => rfl) <| AT.am 3 rfl rfl <| AM.qv (n_field_ptr rfl rfl) rfl <| AM.qv (n_load_ptr_part rfl rfl .p5 rfl rfl) rfl <| AM.qv (q_load_ptr_all rfl rfl .p6 rfl) rfl <| AM.nil <| AT.run0 (Ti := [(b17, .cells [I n28, I n29, I n30])]) (Pi := [(b17, .cells [I v35.Version.Major, I v35.Version.Minor, I v35.Version.Patch])]) (fun _ => rfl) (fun _ => rfl) (fun _ => rfl) rfl rfl ?_ ?_
                · exact n_store_ptr rfl rfl rfl rfl .p0 rfl rfl <| ARun.nil ⟨_, rfl⟩
                exact AT.nilN (fun _ => rfl) fun β => n_store_ptr rfl rfl rfl rfl .p5 rfl rfl <| rA rfl rfl <| rN <| ATodo.stop <| ImpX.lq [1, 1, 1, 1, 0, 0, 2] ⟨v35.Version.Major, v35.Version.Minor, v35.Version.Patch, w64 (v37.1.steps_ + (1 : Int)), w64 (v37.1.size_ + v35.Size), true, h, rfl⟩ rfl rfl
              · exact have h := iteFb hc h; tK <| ATodo.stop <| ImpX.lq [0, 0, 0, 0, 0, 0, 2] ⟨n28, n29, n30, n31, n32, c33, h, rfl⟩ rfl rfl
            · rintro σ' ⟨n41, n42, n43, n44, n45, c46, h, rfl⟩
              unfold campaign_way_j2 at h
              refine ATodo.blk <| tR <| ARun.qv (q_addw rfl rfl) rfl <| rM rfl rfl <| rN <| ATodo.stop <| ?_
              obtain rfl := Option.some.inj h
              exact hJ2 _ _ rfl <| ImpX.lq [0, 0, 0, 0, 0, 0, 0] rfl rfl rfl
        · refine have h := iteF hc h; ATodo.exit rfl <| have h := outL h hA2; ?_
          unfold campaign_way_k3 at h
          refine tS <| tSR <| rM rfl rfl <| ARun.qv (q_not rfl) rfl <| rN <| ATodo.cond rfl (fun hc => ?_) (fun hc => ?_)
          · refine have h := iteT hc h; tSR <| rA rfl rfl <| rA rfl rfl <| rN <| ATodo.ret <| have h := outL h hA1; ?_
            obtain rfl := Option.some.inj h
            exact ImpX.arr (s := 10) 3 rfl fun b47 => ImpX.here ⟨_, .cons (.tmp _ _ rfl) (.cons (.tmp _ _ rfl) .nil), _, .cons .p1 (.cons .p0 .nil), ⟨b47, rfl, rfl⟩⟩
          · refine have h := iteFb hc h; tK <| bndE h fun l48 e5 h => ATodo.regionT (id := 17) (A := [0, 0, 2, 7, 0, 15, 63]) (H0 := [(b10, .arr 3 (l11.map Version.av))]) (HH := fun β => [((β 5), .arr 3 (l48.map Version.av)), (b_4, .mp (p4x0.map (fun e => (Version.av e.1, Campaign_cost.av e.2)))), (b2, .cells [I p3x0.Major, I p3x0.Minor, I p3x0.Patch]), (b12, .cells [I n13, I n14, I n15]), (b17, .cells [I n28, I n29, I n30]), (b18, .cells [I n31, I n32]), (b20, .arr 6 (v19.map Image.av))]) 6 mixed rfl (by kernel_rfl) (by kernel_rfl) [⟨none, some 3, [], fun _ => (b10, .arr 3 (l11.map Version.av)), none⟩, ⟨some 3, some 5, [], fun b => (b, .arr 3 (l48.map Version.av)), none⟩, ⟨some 5, none, [], fun b => (b, .arr 3 (l48.map Version.av)), none⟩] [3, 5] rfl (by kernel_rfl) rfl (.cons .p2 .nil) (fun _ => rfl) <| AT.am 3 rfl rfl <| AM.qv (q_move rfl) rfl <| AM.qv (q_load_ptr_all rfl rfl .p3 rfl) rfl <| AM.buildSliceL (xs := ([(⟨n28, n29, n30⟩ : Version)]).map Version.av) rfl rfl rfl rfl rfl rfl <| AM.nil <| AT.runD (V := fun b => .sl 3 b 0 l48.length) (Ti := [(b10, .arr 3 (l11.map Version.av))]) (Pi := fun b => [(b, .arr 3 (l48.map Version.av))]) (fun _ => rfl) (fun _ => rfl) (fun _ _ => rfl) rfl (fun _ => rfl) rfl rfl rfl ?_ ?_
            · exact t_append (g := Version.av) rfl rfl rfl rfl rfl rfl rfl rfl (.list _) e5 (fun _ => .p0) rfl fun b49 => ARun.nil ⟨b49, _, rfl, rfl⟩
            refine AT.am 1 rfl rfl <| AM.qv (q_load_ptr_all rfl rfl .p3 rfl) rfl <| AM.nil <| AT.runE (V := fun b => .sl 3 b 0 l48.length) (Ti := fun β => [(β 3, .arr 3 (l48.map Version.av))]) (Pi := fun b => [(b, .arr 3 (l48.map Version.av))]) (fun _ => rfl) (fun _ => rfl) (fun _ _ => rfl) (fun _ => rfl) (fun _ => rfl) rfl rfl rfl (fun β => ?_) ?_
            · generalize β 3 = b49
              exact rA rfl rfl <| ARun.nil ⟨b49, _, rfl, rfl⟩
            refine AT.nilN (fun _ => rfl) fun β => ?_
            generalize β 3 = b49
            generalize β 5 = b50
            clear β
            refine n_store_ptr rfl rfl rfl rfl .p3 rfl rfl <| rN <| ATodo.blk <| tSR <| ARun.qv (q_load_ptr_all rfl rfl .p3 rfl) rfl <| rN <| tR <| n_alloc rfl rfl rfl rfl fun b51 => n_store_ptr rfl rfl rfl rfl .p0 rfl rfl <| rN <| ATodo.stop <| ?_
            obtain rfl := Option.some.inj h
            exact hJ1 _ _ rfl <| ImpX.lq [2, 2, 1, 0] ⟨b50, b51, rfl⟩ rfl rfl
    · refine have h := iteF hc h; ATodo.exit rfl <| have h := outL h hA1; tSR <| rM rfl rfl <| rA rfl rfl <| rA rfl rfl <| rN <| ATodo.ret <| ?_
      obtain rfl := Option.some.inj h
      exact ImpX.here ⟨_, .cons (.tmp _ _ rfl) (.cons (.tmp _ _ rfl) .nil), _, .cons .p0 (.cons .p1 .nil), ⟨b10, rfl, rfl⟩⟩

set_option maxHeartbeats 4000000 in
theorem campaign_Way_c [GI : GTab] {p0x0 : List Image} {p1x0 : Str} {p2x0 : Version} {p3x0 : Version} {r : (List Version) × Int} (h : campaign_Way p0x0 p1x0 p2x0 p3x0 = some r) : ACall Tryz.prog 46 [.list 6 (p0x0.map Image.av), .str p1x0, .agg [I p2x0.Major, I p2x0.Minor, I p2x0.Patch], .agg [I p3x0.Major, I p3x0.Minor, I p3x0.Patch]] [] (T1 (fun d_0 => [(d_0, .arr 3 (r.1.map Version.av))]) (fun d_0 => .tup [.sl 3 d_0 0 r.1.length, I r.2])) := by
  unfold campaign_Way at h
  refine ACall.lessH ?_
  refine ACall.bodyN Tryz.func46 rfl Tryz.ntmps46 Tryz.results46 rfl rfl ?_
  refine tSR <| n_box rfl rfl rfl rfl fun b1 => n_box rfl rfl rfl rfl fun b2 => rA rfl rfl <| rA rfl rfl <| rN <| tS <| tSR <| rM rfl rfl <| rM rfl rfl <| ARun.qv (q_load_ptr_all rfl rfl .p1 rfl) rfl <| ARun.qv (q_load_ptr_all rfl rfl .p0 rfl) rfl <| n_buildSliceL (xs := ([p2x0, p3x0] : List Version).map Version.av) rfl rfl rfl rfl rfl rfl <| bndE h fun v3 e1 h => r_callp rfl (campaign_modelFault_c e1) (CoL.refl _) rfl <| rA rfl rfl <| rN <| tSR <| rM rfl rfl <| ARun.qv (q_neq rfl rfl) rfl <| rN <| ATodo.cond_d rfl (fun hc => ?_) (fun hc => ?_)
  · refine have h := iteT hc h; tSR <| rM rfl rfl <| rA rfl rfl <| rA rfl rfl <| rN <| ATodo.ret <| ?_
    obtain rfl := Option.some.inj h
    exact ImpX.arr (s := 8) 3 rfl fun b4 => ImpX.here ⟨_, .cons (.tmp _ _ rfl) (.cons (.tmp _ _ rfl) .nil), _, .cons .p0 .nil, ⟨b4, rfl, rfl⟩⟩
  · refine have h := iteF hc h; tK <| tS <| bndE h fun v5 e2 h => bndE h fun v7 e3 h => ATodo.regionT (id := 4) (A := [0, 0, 0, 0, 0, 0, 0, 112, 255, 511, 1023, 1023, 2047, 8191]) (H0 := []) (HH := fun β => [((β 12), .arr 3 (v7.1.map Version.av)), (b2, .cells [I p3x0.Major, I p3x0.Minor, I p3x0.Patch]), (b1, .cells [I p2x0.Major, I p2x0.Minor, I p2x0.Patch])]) 13 mixed rfl (by kernel_rfl) (by kernel_rfl) [⟨some 7, some 8, [], fun b => (b, .mp (v5.map (fun e => (Version.av e.1, Campaign_cost.av e.2)))), none⟩, ⟨some 8, some 9, [], fun b => (b, .arr 3 (v7.1.map Version.av)), none⟩, ⟨some 9, some 10, [], fun b => (b, .arr 3 (v7.1.map Version.av)), none⟩, ⟨some 10, some 12, [], fun b => (b, .arr 3 (v7.1.map Version.av)), none⟩, ⟨some 12, none, [], fun b => (b, .arr 3 (v7.1.map Version.av)), none⟩] [7, 8, 9, 10, 12] rfl (by kernel_rfl) rfl .nil (fun _ => rfl) <| AT.am 7 rfl rfl <| AM.qv (q_move rfl) rfl <| AM.qv (q_move rfl) rfl <| AM.qv (q_load_ptr_all rfl rfl .p1 rfl) rfl <| AM.qv (q_load_ptr_all rfl rfl .p0 rfl) rfl <| AM.qv (q_move rfl) rfl <| AM.qv (q_move rfl) rfl <| AM.qv (q_load_ptr_all rfl rfl .p0 rfl) rfl <| AM.nil <| AT.runD (V := fun b => .mref b) (Ti := []) (Pi := fun b => [(b, .mp (v5.map (fun e => (Version.av e.1, Campaign_cost.av e.2))))]) (fun _ => rfl) (fun _ => rfl) (fun _ _ => rfl) rfl (fun _ => rfl) rfl rfl rfl ?_ ?_
    · exact t_call1 rfl (campaign_costs_c e2) (CoL.refl _) .nil (fun _ => rfl) rfl fun b6 => ARun.nil ⟨b6, _, rfl, rfl⟩
    refine AT.runE (V := fun b => .tup [.sl 3 b 0 v7.1.length, .bool v7.2]) (Ti := fun β => [((β 7), .mp (v5.map (fun e => (Version.av e.1, Campaign_cost.av e.2))))]) (Pi := fun b => [(b, .arr 3 (v7.1.map Version.av))]) (fun _ => rfl) (fun _ => rfl) (fun _ _ => rfl) (fun _ => rfl) (fun _ => rfl) rfl rfl rfl (fun β => ?_) ?_
    · generalize β 7 = b6
      exact t_call1 rfl (campaign_way_c e3) (CoL.refl _) (.cons .p0 .nil) (fun _ => rfl) rfl fun b8 => ARun.ghost <| ImpX.drop .p0 <| ImpX.here <| ARun.nil ⟨b8, _, rfl, rfl⟩
    refine AT.runE (V := fun b => .tup [.sl 3 b 0 v7.1.length, .bool v7.2]) (Ti := fun β => [(β 8, .arr 3 (v7.1.map Version.av))]) (Pi := fun b => [(b, .arr 3 (v7.1.map Version.av))]) (fun _ => rfl) (fun _ => rfl) (fun _ _ => rfl) (fun _ => rfl) (fun _ => rfl) rfl rfl rfl (fun β => ?_) ?_
    · generalize β 8 = b8
      exact rM rfl rfl <| ARun.nil ⟨b8, _, rfl, rfl⟩
    refine AT.runE (V := fun b => .sl 3 b 0 v7.1.length) (Ti := fun β => [(β 9, .arr 3 (v7.1.map Version.av))]) (Pi := fun b => [(b, .arr 3 (v7.1.map Version.av))]) (fun _ => rfl) (fun _ => rfl) (fun _ _ => rfl) (fun _ => rfl) (fun _ => rfl) rfl rfl rfl (fun β => ?_) ?_
    · generalize β 9 = b9
      exact rX rfl rfl rfl <| ARun.nil ⟨b9, _, rfl, rfl⟩
    refine AT.stE (fun _ => rfl) (fun _ => rfl) (fun _ => rfl) (fun β => q_extract rfl rfl) rfl <| AT.runE (V := fun b => .sl 3 b 0 v7.1.length) (Ti := fun β => [(β 10, .arr 3 (v7.1.map Version.av))]) (Pi := fun b => [(b, .arr 3 (v7.1.map Version.av))]) (fun _ => rfl) (fun _ => rfl) (fun _ _ => rfl) (fun _ => rfl) (fun _ => rfl) rfl rfl rfl (fun β => ?_) ?_
    · generalize β 10 = b10
      exact rA rfl rfl <| ARun.nil ⟨b10, _, rfl, rfl⟩
    refine AT.nilN (fun _ => rfl) fun β => ?_
    generalize β 7 = b6
    generalize β 8 = b8
    generalize β 9 = b9
    generalize β 10 = b10
    generalize β 12 = b11
    clear β
    refine rA rfl rfl <| rN <| tS <| tSR <| rM rfl rfl <| ARun.qv (q_not rfl) rfl <| rN <| ATodo.cond rfl (fun hc => ?_) (fun hc => ?_)
    · refine have h := iteT hc h; tSR <| rA rfl rfl <| rA rfl rfl <| rN <| ATodo.ret <| ?_
      obtain rfl := Option.some.inj h
      exact ImpX.arr (s := 8) 3 rfl fun b12 => ImpX.here ⟨_, .cons (.tmp _ _ rfl) (.cons (.tmp _ _ rfl) .nil), _, .cons .p0 .nil, ⟨b12, rfl, rfl⟩⟩
    · refine have h := iteFb hc h; tK <| tSR <| rM rfl rfl <| rA rfl rfl <| rA rfl rfl <| rN <| ATodo.ret <| ?_
      obtain rfl := Option.some.inj h
      exact ImpX.here ⟨_, .cons (.tmp _ _ rfl) (.cons (.tmp _ _ rfl) .nil), _, .cons .p0 .nil, ⟨b11, rfl, rfl⟩⟩

set_option maxHeartbeats 4000000 in
theorem campaign_Reach_1x_c [GI : GTab] {p0x0 : Range} {p1x0 : Range} {r : Int} (h : campaign_Reach_1x p0x0 p1x0 = some r) : Pu Tryz.prog 107 [.agg [I p0x0.Low.Major, I p0x0.Low.Minor, I p0x0.Low.Patch, I p0x0.High.Major, I p0x0.High.Minor, I p0x0.High.Patch], .agg [I p1x0.Low.Major, I p1x0.Low.Minor, I p1x0.Low.Patch, I p1x0.High.Major, I p1x0.High.Minor, I p1x0.High.Patch]] (I r) := by
  unfold campaign_Reach_1x at h
  refine ACall.bodyN Tryz.func107 rfl Tryz.ntmps107 Tryz.results107 rfl rfl ?_
  refine tSR <| n_box rfl rfl rfl rfl fun b1 => n_box rfl rfl rfl rfl fun b2 => rA rfl rfl <| rN <| tSR <| rF rfl rfl rfl <| ARun.qv (n_load_ptr_part rfl rfl .p1 rfl rfl) rfl <| rF rfl rfl rfl <| ARun.qv (n_load_ptr_part rfl rfl .p0 rfl rfl) rfl <| bndE h fun v3 e1 h => r_callp rfl (campaign_Compare_c e1) (CoL.refl _) rfl <| rA rfl rfl <| rN <| ATodo.ret <| ?_
  obtain rfl := Option.some.inj h
  exact ImpX.here ⟨_, .cons (.tmp _ _ rfl) .nil, rfl⟩

set_option maxHeartbeats 4000000 in
theorem slices_SortFunc_Range_Range_k : SortK Tryz.prog 106 6 := ⟨fun enc hk h1 cf hO g cb blk off cap d w eg hc hH hb hs => AnyQ.slices_SortFunc_eq Tryz.sortF106 6 Tryz.isAgg111 Tryz.sizeOf111 enc hk h1 cf hO g cb blk off cap d w eg hc hH hb hs, fun p cap fv w => AnyF.slices_SortFunc_none Tryz.sortF106 p cap fv w⟩
theorem slices_SortFunc_Range_Range_c [GI : GTab] {b_0 : Bk} {p0x0 : List Range} {fnb : Range → Range → Option Int} {fnb_F : FuncId} [IsFn Tryz.prog fnb_F] {fnb_C : List AV} (fnb_h : ∀ {y0 y1 : _} {u : Int}, fnb y0 y1 = some u → @Pu strongT Tryz.prog fnb_F (Range.av y0 :: Range.av y1 :: fnb_C) (I u)) {r : (List Range)} (h : slices_SortFunc_Range_Range p0x0 fnb = some r) : ACall Tryz.prog 106 [.sl 6 b_0 0 p0x0.length, .func (.func fnb_F) fnb_C] [(b_0, .arr 6 (p0x0.map Range.av))] (T0 [(b_0, .arr 6 (r.map Range.av))] (.tup [])) :=
  sort_acall (fn := fnb) slices_SortFunc_Range_Range_k rfl @fnb_h (fun _ => rfl) h

set_option maxHeartbeats 4000000 in
theorem campaign_number_c [GI : GTab] {p0x0 : Version} {r : Int} (h : campaign_number p0x0 = r) : Pu Tryz.prog 109 [.agg [I p0x0.Major, I p0x0.Minor, I p0x0.Patch]] (I r) := by
  unfold campaign_number at h
  refine ACall.bodyN Tryz.func109 rfl Tryz.ntmps109 Tryz.results109 rfl rfl ?_
  refine tSR <| n_box rfl rfl rfl rfl fun b1 => rA rfl rfl <| rN <| tSR <| rF rfl rfl rfl <| rL rfl rfl .p0 rfl rfl <| ARun.qv (q_mulw rfl rfl) rfl <| rF rfl rfl rfl <| rL rfl rfl .p0 rfl rfl <| ARun.qv (q_addw rfl rfl) rfl <| ARun.qv (q_mulw rfl rfl) rfl <| rF rfl rfl rfl <| rL rfl rfl .p0 rfl rfl <| ARun.qv (q_addw rfl rfl) rfl <| rA rfl rfl <| rN <| ATodo.ret <| ?_
  obtain rfl := h
  exact ImpX.here ⟨_, .cons (.tmp _ _ rfl) .nil, rfl⟩

set_option maxHeartbeats 4000000 in
theorem campaign_numbered_c [GI : GTab] {p0x0 : Int} {r : Version} (h : campaign_numbered p0x0 = r) : Pu Tryz.prog 110 [I p0x0] (.agg [I r.Major, I r.Minor, I r.Patch]) := by
  unfold campaign_numbered at h
  refine ACall.bodyN Tryz.func110 rfl Tryz.ntmps110 Tryz.results110 rfl rfl ?_
  refine tSR <| n_alloc rfl rfl rfl rfl fun b1 => rN <| tSR <| rM rfl rfl <| ARun.qv (t_quo rfl rfl (by decide)) rfl <| ARun.qv (t_quo rfl rfl (by decide)) rfl <| rM rfl rfl <| ARun.qv (t_quo rfl rfl (by decide)) rfl <| ARun.qv (q_rem rfl rfl (by decide)) rfl <| rM rfl rfl <| ARun.qv (q_rem rfl rfl (by decide)) rfl <| ARun.qv (n_build rfl rfl rfl rfl rfl) rfl <| n_store_ptr rfl rfl rfl rfl .p0 rfl rfl <| rN <| ATodo.ret <| ?_
  obtain rfl := h
  exact ImpX.here ⟨_, .cons (.all _ _ _ _ _ _ rfl .p0 TUnder.h TInfo.h rfl rfl) .nil, rfl⟩

set_option maxHeartbeats 4000000 in
theorem campaign_Reach_c [GI : GTab] {p0x0 : List Image} {p1x0 : Str} {p2x0 : Version} {r : (List Range) × Int} (h : campaign_Reach p0x0 p1x0 p2x0 = some r) : ACall Tryz.prog 47 [.list 6 (p0x0.map Image.av), .str p1x0, .agg [I p2x0.Major, I p2x0.Minor, I p2x0.Patch]] [] (T1 (fun d_0 => [(d_0, .arr 6 (r.1.map Range.av))]) (fun d_0 => .tup [.sl 6 d_0 0 r.1.length, I r.2])) := by
  unfold campaign_Reach at h
  refine ACall.lessH ?_
  refine ACall.bodyN Tryz.func47 rfl Tryz.ntmps47 Tryz.results47 rfl rfl ?_
  refine tSR <| n_box rfl rfl rfl rfl fun b1 => rA rfl rfl <| rA rfl rfl <| rN <| tS <| tSR <| rM rfl rfl <| rM rfl rfl <| ARun.qv (q_load_ptr_all rfl rfl .p0 rfl) rfl <| n_buildSliceL (xs := ([p2x0] : List Version).map Version.av) rfl rfl rfl rfl rfl rfl <| bndE h fun v2 e1 h => r_callp rfl (campaign_modelFault_c e1) (CoL.refl _) rfl <| rA rfl rfl <| rN <| tSR <| rM rfl rfl <| ARun.qv (q_neq rfl rfl) rfl <| rN <| ATodo.cond_d rfl (fun hc => ?_) (fun hc => ?_)
  · refine have h := iteT hc h; tSR <| rM rfl rfl <| rA rfl rfl <| rA rfl rfl <| rN <| ATodo.ret <| ?_
    obtain rfl := Option.some.inj h
    exact ImpX.arr (s := 6) 6 rfl fun b3 => ImpX.here ⟨_, .cons (.tmp _ _ rfl) (.cons (.tmp _ _ rfl) .nil), _, .cons .p0 .nil, ⟨b3, rfl, rfl⟩⟩
  · refine have h := iteF hc h; tK <| tSR <| rM rfl rfl <| rM rfl rfl <| ARun.qv (q_load_ptr_all rfl rfl .p0 rfl) rfl <| bndE h fun v4 e2 h => t_call1 rfl (campaign_costs_c e2) (CoL.refl _) .nil (fun _ => rfl) rfl fun b5 => rA rfl rfl <| rN <| tSR <| ARun.qv (q_load_ptr_all rfl rfl .p1 rfl) rfl <| ARun.qv (q_load_ptr_all rfl rfl .p1 rfl) rfl <| ARun.qv (n_build rfl rfl rfl rfl rfl) rfl <| n_buildSlice rfl rfl rfl rfl rfl rfl fun b6 => rA rfl rfl <| rN <| tS <| tSR <| rM rfl rfl <| ARun.qv (t_len rfl) rfl <| rM rfl rfl <| rN <| ATodo.block <| ATodo.loopI (fun x : (List Range) × Int => campaign_Reach_b1 p0x0 p1x0 v4 x.1 x.2) (fun x σ' => ∃ (b10 : Bk), σ' = ⟨107, [(1, .str p1x0), (9, .mref b5), (10, .sl 6 b10 0 x.1.length), (35, .list 6 (p0x0.map Image.av)), (36, I (p0x0.length : Int)), (37, I x.2)], [(b5, .mp (v4.map (fun e => (Version.av e.1, Campaign_cost.av e.2)))), (b10, .arr 6 (x.1.map Range.av))]⟩) h ?_ ?_
    · exact ImpX.lq [1, 0] ⟨b6, rfl⟩ rfl rfl
    · intro x z1 σ' J1 hmk h hJ1 hA1
      obtain ⟨l11, n12⟩ := x
      obtain ⟨b10, rfl⟩ := hmk
      replace h : campaign_Reach_b1 p0x0 p1x0 v4 l11 n12 = some z1 := h
      unfold campaign_Reach_b1 at h
      refine tSR <| ARun.qv (q_lss rfl rfl) rfl <| rN <| tS <| ATodo.cond_d rfl (fun hc => ?_) (fun hc => ?_)
      · refine have h := iteT hc h; tK <| tS <| ATodo.block <| tSR <| bndE h fun v13 e3 h => ARun.qv (t_index rfl rfl rfl e3 rfl rfl) rfl <| ARun.qv (q_load_rptr_agg rfl rfl rfl) rfl <| n_alloc rfl rfl rfl rfl fun b14 => n_store_ptr rfl rfl rfl rfl .p0 rfl rfl <| rN <| tSR <| rM rfl rfl <| rF rfl rfl rfl <| ARun.qv (n_load_ptr_part rfl rfl .p0 rfl rfl) rfl <| bndE h fun v15 e4 h => ARun.qv (t_lookup2 (gk := Version.av) (gv := Campaign_cost.av) (M := v4) (key := v13.Version) (Z := (⟨(0 : Int), (0 : Int)⟩ : Campaign_cost)) rfl rfl .p1 rfl rfl rfl e4 rfl) rfl <| rM rfl rfl <| rX rfl rfl rfl <| rX rfl rfl rfl <| n_alloc rfl rfl rfl rfl fun b16 => n_store_ptr rfl rfl rfl rfl .p0 rfl rfl <| rA rfl rfl <| rN <| tS <| ATodo.cut (fun σ' => ∃ (c17 : Bool), campaign_Reach_j1 l11 n12 v13 c17 = some z1 ∧ σ' = ⟨107, [(1, .str p1x0), (9, .mref b5), (10, .sl 6 b10 0 l11.length), (12, .ptr b14 0), (35, .list 6 (p0x0.map Image.av)), (36, I (p0x0.length : Int)), (37, I n12), (54, .bool c17)], [(b5, .mp (v4.map (fun e => (Version.av e.1, Campaign_cost.av e.2)))), (b10, .arr 6 (l11.map Range.av)), (b14, .cells [I v13.Version.Major, I v13.Version.Minor, I v13.Version.Patch, .list 1 (v13.Models.map AV.str), .list 6 (v13.From.map Range.av), I v13.Size])]⟩) ?_ ?_
        · refine tR <| rM rfl rfl <| rM rfl rfl <| ARun.guard rfl rfl rfl (fun hc => ?_) (fun hc => ?_)
          · exact have h := iteT hc h; rF rfl rfl rfl <| rY rfl rfl rfl <| rL rfl rfl .p1 rfl rfl <| rY rfl rfl rfl <| rM rfl rfl <| rY rfl rfl rfl <| bndE h fun v18 e5 h => r_callp rfl (slices_Contains_string_string_c e5) (CoL.refl _) rfl <| rT rfl rfl rfl <| rN <| ATodo.stop <| ImpX.lq [2, 2, 1] ⟨v18, h, rfl⟩ rfl rfl
          · exact have h := iteFb hc h; rG rfl rfl rfl rfl <| rG rfl rfl rfl rfl <| rG rfl rfl rfl rfl <| rE rfl rfl rfl <| rN <| ATodo.stop <| ImpX.lq [2, 2, 1] ⟨false, h, rfl⟩ rfl rfl
        · rintro σ' ⟨c17, h, rfl⟩
          unfold campaign_Reach_j1 at h
          refine ATodo.cut (fun σ' => ∃ (b19 : Bk) (l20 : List Range), campaign_Reach_j2 n12 l20 = some z1 ∧ σ' = ⟨107, [(1, .str p1x0), (9, .mref b5), (10, .sl 6 b19 0 l20.length), (35, .list 6 (p0x0.map Image.av)), (36, I (p0x0.length : Int)), (37, I n12)], [(b5, .mp (v4.map (fun e => (Version.av e.1, Campaign_cost.av e.2)))), (b19, .arr 6 (l20.map Range.av))]⟩) ?_ ?_
          · refine ATodo.cond rfl (fun hc => ?_) (fun hc => ?_)
            · exact have h := iteT hc h; tR <| rM rfl rfl <| rF rfl rfl rfl <| rL rfl rfl .p2 rfl rfl <| bndE h fun l21 e6 h => t_append (g := Range.av) rfl rfl rfl rfl rfl rfl rfl rfl (.list _) e6 (fun _ => .p1) rfl fun b22 => rA rfl rfl <| rN <| ATodo.stop <| ImpX.lq [0, 0] ⟨b22, l21, h, rfl⟩ rfl rfl
            · exact have h := iteFb hc h; tK <| ATodo.stop <| ImpX.lq [0, 0] ⟨b10, l11, h, rfl⟩ rfl rfl
          · rintro σ' ⟨b19, l20, h, rfl⟩
            unfold campaign_Reach_j2 at h
            refine ATodo.blk <| tR <| ARun.qv (q_addw rfl rfl) rfl <| rM rfl rfl <| rN <| ATodo.stop <| ?_
            obtain rfl := Option.some.inj h
            exact hJ1 _ _ rfl <| ImpX.lq [0, 0] ⟨b19, rfl⟩ rfl rfl
      · refine have h := iteF hc h; ATodo.exit rfl <| have h := outL h hA1; ?_
        unfold campaign_Reach_k5 at h
        refine tSR <| rM rfl rfl <| bndE h fun v23 e7 h => t_call0 rfl (slices_SortFunc_Range_Range_c (fun e => campaign_Reach_1x_c (GI := strongT) e) (lenOk_f e7)) (CoL.refl _) (.cons .p1 .nil) rfl rfl <| ARun.ghost <| ImpX.eqs (s := 10) (av' := .sl 6 b10 0 v23.length) rfl (congrArg (AV.sl 6 b10 0) (lenOk_l e7)) <| ImpX.here <| ARun.ghost <| ImpX.eqs (s := 60) (av' := .sl 6 b10 0 v23.length) rfl (congrArg (AV.sl 6 b10 0) (lenOk_l e7)) <| ImpX.here <| rN <| tSR <| rA rfl rfl <| rN <| tS <| tSR <| rM rfl rfl <| ARun.qv (t_len_sl rfl) rfl <| rM rfl rfl <| rN <| ATodo.block <| ATodo.loopI (fun x : (List Range) × Int => campaign_Reach_b2 v23 x.1 x.2) (fun x σ' => ∃ (b27 : Bk), σ' = ⟨107, [(15, .sl 6 b27 0 x.1.length), (62, .sl 6 b10 0 v23.length), (63, I (v23.length : Int)), (64, I x.2)], [(b27, .arr 6 (x.1.map Range.av)), (b10, .arr 6 (v23.map Range.av))]⟩) h ?_ ?_
        · exact ImpX.arr (s := 15) 6 rfl fun b30 => ImpX.lq [0, 0] ⟨b30, rfl⟩ rfl rfl
        · intro x z2 σ' J2 hmk h hJ2 hA2
          obtain ⟨l28, n29⟩ := x
          obtain ⟨b27, rfl⟩ := hmk
          replace h : campaign_Reach_b2 v23 l28 n29 = some z2 := h
          unfold campaign_Reach_b2 at h
          refine tSR <| ARun.qv (q_lss rfl rfl) rfl <| rN <| tS <| ATodo.cond_d rfl (fun hc => ?_) (fun hc => ?_)
          · refine have h := iteT hc h; tK <| tS <| ATodo.block <| tSR <| bndE h fun v31 e8 h => ARun.qv (t_index_sl rfl rfl rfl e8) rfl <| ARun.qv (t_load_aptr_agg (g := Range.av) rfl rfl (.inl .p1) rfl e8 rfl) rfl <| n_alloc rfl rfl rfl rfl fun b32 => n_store_ptr rfl rfl rfl rfl .p0 rfl rfl <| rN <| tSR <| rM rfl rfl <| ARun.qv (t_len_sl rfl) rfl <| ARun.qv (q_subw rfl rfl) rfl <| rA rfl rfl <| rN <| tS <| ATodo.cut (fun σ' => ∃ (c33 : Bool), campaign_Reach_j3 l28 n29 v31 c33 = some z2 ∧ σ' = ⟨107, [(15, .sl 6 b27 0 l28.length), (17, .ptr b32 0), (18, I (w64 ((l28.length : Int) - (1 : Int)))), (62, .sl 6 b10 0 v23.length), (63, I (v23.length : Int)), (64, I n29), (85, .bool c33)], [(b27, .arr 6 (l28.map Range.av)), (b32, .cells [I v31.Low.Major, I v31.Low.Minor, I v31.Low.Patch, I v31.High.Major, I v31.High.Minor, I v31.High.Patch]), (b10, .arr 6 (v23.map Range.av))]⟩) ?_ ?_
            · refine ATodo.regionM (id := 19) (A := [0, 1, 3, 7, 15, 31, 7, 7, 199, 455, 967, 2047, 4095, 8191, 16383]) 15 mixed rfl (by kernel_rfl) (by kernel_rfl) <| AM.qv (q_move rfl) rfl <| AM.qv (q_geq rfl rfl) rfl <| AM.qv (q_move rfl) rfl <| AM.guard_dt rfl rfl rfl (fun hc => ?_) (fun hc => ?_)
              · exact have h := iteT hc h; AM.qv (n_field_ptr rfl rfl) rfl <| AM.guard_yes rfl rfl rfl <| AM.qv (n_load_ptr_part rfl rfl .p0 rfl rfl) rfl <| AM.guard_yes rfl rfl rfl <| AM.callp rfl (campaign_number_c rfl) (CoL.refl _) rfl <| AM.guard_yes rfl rfl rfl <| AM.qv (q_move rfl) rfl <| AM.guard_yes rfl rfl rfl <| AM.qv (q_move rfl) rfl <| AM.guard_yes rfl rfl rfl <| bndE h fun v34 e9 h => AM.qv (t_index_sl rfl rfl rfl e9) rfl <| AM.guard_yes rfl rfl rfl <| AM.qv (t_field_aptr rfl rfl) rfl <| AM.guard_yes rfl rfl rfl <| AM.qv (t_load_aptr_part (g := Range.av) rfl rfl (.inl .p1) e9 rfl rfl) rfl <| AM.guard_yes rfl rfl rfl <| AM.callp rfl (campaign_number_c rfl) (CoL.refl _) rfl <| AM.guard_yes rfl rfl rfl <| AM.qv (q_addw rfl rfl) rfl <| AM.guard_yes rfl rfl rfl <| AM.qv (q_leq rfl rfl) rfl <| AM.qv (q_pick_t rfl rfl) rfl <| AM.nil <| rN <| ATodo.stop <| ImpX.lq [1, 0, 0] ⟨decide ((campaign_number v31.Low) ≤ (w64 ((campaign_number v34.High) + (1 : Int)))), h, rfl⟩ rfl rfl
              · exact have h := iteF hc h; AM.guard_no rfl rfl rfl rfl <| AM.guard_no rfl rfl rfl rfl <| AM.guard_no rfl rfl rfl rfl <| AM.guard_no rfl rfl rfl rfl <| AM.guard_no rfl rfl rfl rfl <| AM.guard_no rfl rfl rfl rfl <| AM.guard_no rfl rfl rfl rfl <| AM.guard_no rfl rfl rfl rfl <| AM.guard_no rfl rfl rfl rfl <| AM.guard_no rfl rfl rfl rfl <| AM.qv (q_pick_f rfl rfl) rfl <| AM.nil <| rN <| ATodo.stop <| ImpX.lq [1, 0, 0] ⟨false, h, rfl⟩ rfl rfl
            · rintro σ' ⟨c33, h, rfl⟩
              unfold campaign_Reach_j3 at h
              refine ATodo.cut (fun σ' => ∃ (b35 : Bk) (l36 : List Range), campaign_Reach_j4 n29 l36 = some z2 ∧ σ' = ⟨107, [(15, .sl 6 b35 0 l36.length), (62, .sl 6 b10 0 v23.length), (63, I (v23.length : Int)), (64, I n29)], [(b35, .arr 6 (l36.map Range.av)), (b10, .arr 6 (v23.map Range.av))]⟩) ?_ ?_
              · refine ATodo.cond rfl (fun hc => ?_) (fun hc => ?_)
                · exact have h := iteT hc h; ATodo.regionM (id := 20) (A := [0, 0, 0, 0, 12, 28, 60, 124, 0, 256, 1020, 2044, 4092, 8191, 16383, 32767]) 15 mixed rfl (by kernel_rfl) (by kernel_rfl) <| AM.qv (q_move rfl) rfl <| AM.qv (q_move rfl) rfl <| AM.qv (q_move rfl) rfl <| AM.qv (q_move rfl) rfl <| bndE h fun v37 e10 h => AM.qv (t_index_sl rfl rfl rfl e10) rfl <| AM.qv (t_field_aptr rfl rfl) rfl <| AM.qv (t_load_aptr_part (g := Range.av) rfl rfl (.inl .p0) e10 rfl rfl) rfl <| AM.callp rfl (campaign_number_c rfl) (CoL.refl _) rfl <| AM.qv (n_field_ptr rfl rfl) rfl <| AM.qv (n_load_ptr_part rfl rfl .p1 rfl rfl) rfl <| AM.callp rfl (campaign_number_c rfl) (CoL.refl _) rfl <| AM.qv (q_max rfl rfl) rfl <| AM.callp rfl (campaign_numbered_c rfl) (CoL.refl _) rfl <| bndE h fun v38 e11 h => AM.qv (t_index_sl rfl rfl rfl e11) rfl <| AM.qv (t_field_aptr rfl rfl) rfl <| AM.nil <| t_store_aptr1 (g := Range.av) (el' := (⟨v38.Low, (campaign_numbered (max (campaign_number v37.High) (campaign_number v31.High)))⟩ : Range)) rfl rfl rfl rfl e11 rfl .p0 rfl <| ARun.ghost <| ImpX.eqs (s := 15) (av' := .sl 6 b27 0 (l28.set (w64 ((l28.length : Int) - (1 : Int))).toNat (⟨v38.Low, (campaign_numbered (max (campaign_number v37.High) (campaign_number v31.High)))⟩ : Range)).length) rfl (by rw [List.length_set]) <| ImpX.here <| ARun.ghost <| ImpX.eqs (s := 86) (av' := .sl 6 b27 0 (l28.set (w64 ((l28.length : Int) - (1 : Int))).toNat (⟨v38.Low, (campaign_numbered (max (campaign_number v37.High) (campaign_number v31.High)))⟩ : Range)).length) rfl (by rw [List.length_set]) <| ImpX.here <| ARun.ghost <| ImpX.eqs (s := 88) (av' := .sl 6 b27 0 (l28.set (w64 ((l28.length : Int) - (1 : Int))).toNat (⟨v38.Low, (campaign_numbered (max (campaign_number v37.High) (campaign_number v31.High)))⟩ : Range)).length) rfl (by rw [List.length_set]) <| ImpX.here <| rN <| ATodo.stop <| ImpX.lq [0, 1] ⟨b27, l28.set (w64 ((l28.length : Int) - (1 : Int))).toNat (⟨v38.Low, (campaign_numbered (max (campaign_number v37.High) (campaign_number v31.High)))⟩ : Range), h, rfl⟩ rfl rfl
                · exact have h := iteFb hc h; tR <| rM rfl rfl <| ARun.qv (q_load_ptr_all rfl rfl .p1 rfl) rfl <| n_buildSliceL (xs := ([v31] : List Range).map Range.av) rfl rfl rfl rfl rfl rfl <| bndE h fun l39 e12 h => t_append (g := Range.av) rfl rfl rfl rfl rfl rfl rfl rfl (.list _) e12 (fun _ => .p0) rfl fun b40 => rA rfl rfl <| rN <| ATodo.stop <| ImpX.lq [0, 1] ⟨b40, l39, h, rfl⟩ rfl rfl
              · rintro σ' ⟨b35, l36, h, rfl⟩
                unfold campaign_Reach_j4 at h
                refine ATodo.blk <| tR <| ARun.qv (q_addw rfl rfl) rfl <| rM rfl rfl <| rN <| ATodo.stop <| ?_
                obtain rfl := Option.some.inj h
                exact hJ2 _ _ rfl <| ImpX.lq [0, 0] ⟨b35, rfl⟩ rfl rfl
          · refine have h := iteF hc h; ATodo.exit rfl <| have h := outL h hA2; tSR <| rM rfl rfl <| rA rfl rfl <| rA rfl rfl <| rN <| ATodo.ret <| ?_
            obtain rfl := Option.some.inj h
            exact ImpX.here ⟨_, .cons (.tmp _ _ rfl) (.cons (.tmp _ _ rfl) .nil), _, .cons .p0 .nil, ⟨b27, rfl, rfl⟩⟩

set_option maxHeartbeats 4000000 in
theorem Q_in_c [GI : GTab] {p0x0 : Int} {p1x0 : Int} {p2x0 : Int} {r : Bool} (h : Q_in p0x0 p1x0 p2x0 = r) : Pu Tryz.prog 72 [I p0x0, I p1x0, I p2x0] (.bool r) := by
  unfold Q_in at h
  refine ACall.bodyN Tryz.func72 rfl Tryz.ntmps72 Tryz.results72 rfl rfl ?_
  refine tSR <| rA rfl rfl <| rN <| tS <| ATodo.cut (fun σ' => ∃ (c1 : Bool), Q_in_j1 c1 = r ∧ σ' = ⟨15, [(6, .bool c1)], []⟩) ?_ ?_
  · refine tR <| rM rfl rfl <| rM rfl rfl <| ARun.qv (q_leq rfl rfl) rfl <| rM rfl rfl <| ARun.guard_dt rfl rfl rfl (fun hc => ?_) (fun hc => ?_)
    · rw [andTd hc] at h
      exact rM rfl rfl <| rY rfl rfl rfl <| rM rfl rfl <| rY rfl rfl rfl <| ARun.qv (q_leq rfl rfl) rfl <| rT rfl rfl rfl <| rA rfl rfl <| rN <| ATodo.stop <| ImpX.lq [] ⟨decide (p0x0 ≤ p2x0), h, rfl⟩ rfl rfl
    · rw [andFd hc] at h
      exact rG rfl rfl rfl rfl <| rG rfl rfl rfl rfl <| rE rfl rfl rfl <| rA rfl rfl <| rN <| ATodo.stop <| ImpX.lq [] ⟨false, h, rfl⟩ rfl rfl
  · rintro σ' ⟨c1, h, rfl⟩
    unfold Q_in_j1 at h
    refine ATodo.ret <| ?_
    obtain rfl := h
    exact ImpX.here ⟨_, .cons (.tmp _ _ rfl) .nil, rfl⟩

set_option maxHeartbeats 4000000 in
theorem Q_versionFault_c [GI : GTab] {p0x0 : Version} {r : Int} (h : Q_versionFault p0x0 = r) : Pu Tryz.prog 70 [.agg [I p0x0.Major, I p0x0.Minor, I p0x0.Patch]] (I r) := by
  unfold Q_versionFault at h
  refine ACall.bodyN Tryz.func70 rfl Tryz.ntmps70 Tryz.results70 rfl rfl ?_
  refine tSR <| n_box rfl rfl rfl rfl fun b1 => rA rfl rfl <| rN <| tS <| tS <| ATodo.cut (fun σ' => ∃ (c2 : Bool), Q_versionFault_j1 c2 = r ∧ σ' = ⟨19, [(18, .bool c2)], []⟩) ?_ ?_
  · refine tR <| rF rfl rfl rfl <| rL rfl rfl .p0 rfl rfl <| r_callp rfl (Q_in_c rfl) (CoL.refl _) rfl <| ARun.qv (q_not rfl) rfl <| rM rfl rfl <| ARun.guard rfl rfl rfl (fun hc => ?_) (fun hc => ?_)
    · rw [orFb hc] at h
      refine rF rfl rfl rfl <| rY rfl rfl rfl <| rL rfl rfl .p0 rfl rfl <| rY rfl rfl rfl <| r_callp rfl (Q_in_c rfl) (CoL.refl _) rfl <| rY rfl rfl rfl <| ARun.qv (q_not rfl) rfl <| rE rfl rfl rfl <| rM rfl rfl <| ARun.guard rfl rfl rfl (fun hc => ?_) (fun hc => ?_)
      · rw [orFb hc] at h
        exact rF rfl rfl rfl <| rY rfl rfl rfl <| rL rfl rfl .p0 rfl rfl <| rY rfl rfl rfl <| r_callp rfl (Q_in_c rfl) (CoL.refl _) rfl <| rY rfl rfl rfl <| ARun.qv (q_not rfl) rfl <| rE rfl rfl rfl <| rN <| ATodo.stop <| ImpX.lq [] ⟨!(Q_in p0x0.Patch (0 : Int) (9999 : Int)), h, rfl⟩ rfl rfl
      · rw [orTb hc] at h
        exact rG rfl rfl rfl rfl <| rG rfl rfl rfl rfl <| rG rfl rfl rfl rfl <| rT rfl rfl rfl <| rN <| ATodo.stop <| ImpX.lq [] ⟨true, h, rfl⟩ rfl rfl
    · rw [orTb hc] at h
      exact rG rfl rfl rfl rfl <| rG rfl rfl rfl rfl <| rG rfl rfl rfl rfl <| rT rfl rfl rfl <| rM rfl rfl <| rG rfl rfl rfl rfl <| rG rfl rfl rfl rfl <| rG rfl rfl rfl rfl <| rG rfl rfl rfl rfl <| rT rfl rfl rfl <| rN <| ATodo.stop <| ImpX.lq [] ⟨true, h, rfl⟩ rfl rfl
  · rintro σ' ⟨c2, h, rfl⟩
    unfold Q_versionFault_j1 at h
    refine ATodo.cond rfl (fun hc => ?_) (fun hc => ?_)
    · refine have h := iteT hc h; tSR <| rA rfl rfl <| rN <| ATodo.ret <| ?_
      obtain rfl := h
      exact ImpX.here ⟨_, .cons (.tmp _ _ rfl) .nil, rfl⟩
    · refine have h := iteFb hc h; tK <| tSR <| rA rfl rfl <| rN <| ATodo.ret <| ?_
      obtain rfl := h
      exact ImpX.here ⟨_, .cons (.tmp _ _ rfl) .nil, rfl⟩

set_option maxHeartbeats 4000000 in
theorem Q_only_c [GI : GTab] {p0x0 : Str} {p1x0 : Str} {r : Bool} (h : Q_only p0x0 p1x0 = some r) : Pu Tryz.prog 113 [.str p0x0, .str p1x0] (.bool r) := by
  unfold Q_only at h
  refine ACall.bodyN Tryz.func113 rfl Tryz.ntmps113 Tryz.results113 rfl rfl ?_
  refine tSR <| rA rfl rfl <| rN <| tS <| tSR <| rM rfl rfl <| ARun.qv (q_len_str rfl) rfl <| rM rfl rfl <| rN <| ATodo.block <| ATodo.loopI (fun x : Int => Q_only_b1 p0x0 p1x0 x) (fun x σ' => σ' = ⟨18, [(0, .str p0x0), (1, .str p1x0), (7, I (p0x0.length : Int)), (8, I x)], []⟩) h ?_ ?_
  · exact ImpX.lq [] rfl rfl rfl
  · intro n2 z1 σ' J1 hmk h hJ1 hA1
    obtain rfl := hmk
    replace h : Q_only_b1 p0x0 p1x0 n2 = some z1 := h
    unfold Q_only_b1 at h
    refine tSR <| ARun.qv (q_lss rfl rfl) rfl <| rN <| tS <| ATodo.cond_d rfl (fun hc => ?_) (fun hc => ?_)
    · refine have h := iteT hc h; tK <| tS <| ATodo.block <| tSR <| rM rfl rfl <| rA rfl rfl <| rN <| tSR <| rM rfl rfl <| rM rfl rfl <| rM rfl rfl <| bndE h fun c3 e1 h => ARun.qv (t_index_str rfl rfl e1) rfl <| r_callp rfl (strings_IndexByte_c rfl) (CoL.refl _) rfl <| ARun.qv (q_lss rfl rfl) rfl <| rN <| ATodo.cond_d rfl (fun hc => ?_) (fun hc => ?_)
      · refine have h := iteT hc h; tSR <| rA rfl rfl <| rN <| ATodo.ret <| have h := outL h hA1; ?_
        obtain rfl := Option.some.inj h
        exact ImpX.here ⟨_, .cons (.tmp _ _ rfl) .nil, rfl⟩
      · refine have h := iteF hc h; tK <| ATodo.blk <| tR <| ARun.qv (q_addw rfl rfl) rfl <| rM rfl rfl <| rN <| ATodo.stop <| ?_
        obtain rfl := Option.some.inj h
        exact hJ1 _ _ rfl <| ImpX.lq [] rfl rfl rfl
    · refine have h := iteF hc h; ATodo.exit rfl <| have h := outL h hA1; tSR <| rA rfl rfl <| rN <| ATodo.ret <| ?_
      obtain rfl := Option.some.inj h
      exact ImpX.here ⟨_, .cons (.tmp _ _ rfl) .nil, rfl⟩

set_option maxHeartbeats 4000000 in
theorem Q_Key_c [GI : GTab] {p0x0 : Str} {r : Bool} (h : Q_Key p0x0 = some r) : Pu Tryz.prog 49 [.str p0x0] (.bool r) := by
  unfold Q_Key at h
  refine ACall.bodyN Tryz.func49 rfl Tryz.ntmps49 Tryz.results49 rfl rfl ?_
  refine tSR <| rA rfl rfl <| rN <| tS <| ATodo.cut (fun σ' => ∃ (c1 : Bool), Q_Key_j1 c1 = some r ∧ σ' = ⟨15, [(2, .bool c1)], []⟩) ?_ ?_
  · refine tR <| rM rfl rfl <| ARun.qv (q_len_str rfl) rfl <| r_callp rfl (Q_in_c rfl) (CoL.refl _) rfl <| rM rfl rfl <| ARun.guard rfl rfl rfl (fun hc => ?_) (fun hc => ?_)
    · refine have h := iteT hc h; rM rfl rfl <| rY rfl rfl rfl <| bndE h fun l2 e1 h => ARun.qv (t_slice_str rfl .none (.some _ _ _ rfl) rfl rfl e1) rfl <| rY rfl rfl rfl <| bndE h fun v3 e2 h => r_callp rfl (Q_only_c e2) (CoL.refl _) rfl <| rT rfl rfl rfl <| rM rfl rfl <| ARun.guard rfl rfl rfl (fun hc => ?_) (fun hc => ?_)
      · exact have h := iteT hc h; rM rfl rfl <| rY rfl rfl rfl <| bndE h fun v4 e3 h => r_callp rfl (Q_only_c e3) (CoL.refl _) rfl <| rT rfl rfl rfl <| rA rfl rfl <| rN <| ATodo.stop <| ImpX.lq [] ⟨v4, h, rfl⟩ rfl rfl
      · exact have h := iteFb hc h; rG rfl rfl rfl rfl <| rE rfl rfl rfl <| rA rfl rfl <| rN <| ATodo.stop <| ImpX.lq [] ⟨false, h, rfl⟩ rfl rfl
    · exact have h := iteFb hc h; rG rfl rfl rfl rfl <| rG rfl rfl rfl rfl <| rE rfl rfl rfl <| rM rfl rfl <| rG rfl rfl rfl rfl <| rG rfl rfl rfl rfl <| rE rfl rfl rfl <| rA rfl rfl <| rN <| ATodo.stop <| ImpX.lq [] ⟨false, h, rfl⟩ rfl rfl
  · rintro σ' ⟨c1, h, rfl⟩
    unfold Q_Key_j1 at h
    refine ATodo.ret <| ?_
    obtain rfl := Option.some.inj h
    exact ImpX.here ⟨_, .cons (.tmp _ _ rfl) .nil, rfl⟩

set_option maxHeartbeats 4000000 in
theorem Q_fits_1x_c [GI : GTab] {p0x0 : Range} {p1x0 : Version} {r : Bool} (h : Q_fits_1x p0x0 p1x0 = some r) : Pu Tryz.prog 172 [.agg [I p0x0.Low.Major, I p0x0.Low.Minor, I p0x0.Low.Patch, I p0x0.High.Major, I p0x0.High.Minor, I p0x0.High.Patch], .rptr [I p1x0.Major, I p1x0.Minor, I p1x0.Patch]] (.bool r) := by
  unfold Q_fits_1x at h
  refine ACall.bodyN Tryz.func172 rfl Tryz.ntmps172 Tryz.results172 rfl rfl ?_
  refine tSR <| n_box rfl rfl rfl rfl fun b1 => rA rfl rfl <| rN <| tS <| ATodo.cut (fun σ' => ∃ (c2 : Bool), Q_fits_1x_j1 c2 = some r ∧ σ' = ⟨16, [(3, .bool c2)], []⟩) ?_ ?_
  · refine tR <| rF rfl rfl rfl <| ARun.qv (n_load_ptr_part rfl rfl .p0 rfl rfl) rfl <| ARun.qv (q_load_rptr_agg rfl rfl rfl) rfl <| bndE h fun v3 e1 h => r_callp rfl (Q_VersionOrder_c e1) (CoL.refl _) rfl <| ARun.qv (q_leq rfl rfl) rfl <| rM rfl rfl <| ARun.guard_dt rfl rfl rfl (fun hc => ?_) (fun hc => ?_)
    · exact have h := iteT hc h; ARun.qv (q_load_rptr_agg rfl rfl rfl) rfl <| rY rfl rfl rfl <| rF rfl rfl rfl <| rY rfl rfl rfl <| ARun.qv (n_load_ptr_part rfl rfl .p0 rfl rfl) rfl <| rY rfl rfl rfl <| bndE h fun v4 e2 h => r_callp rfl (Q_VersionOrder_c e2) (CoL.refl _) rfl <| rY rfl rfl rfl <| ARun.qv (q_leq rfl rfl) rfl <| rT rfl rfl rfl <| rA rfl rfl <| rN <| ATodo.stop <| ImpX.lq [] ⟨decide (v4 ≤ (0 : Int)), h, rfl⟩ rfl rfl
    · exact have h := iteF hc h; rG rfl rfl rfl rfl <| rG rfl rfl rfl rfl <| rG rfl rfl rfl rfl <| rG rfl rfl rfl rfl <| rE rfl rfl rfl <| rA rfl rfl <| rN <| ATodo.stop <| ImpX.lq [] ⟨false, h, rfl⟩ rfl rfl
  · rintro σ' ⟨c2, h, rfl⟩
    unfold Q_fits_1x_j1 at h
    refine ATodo.ret <| ?_
    obtain rfl := Option.some.inj h
    exact ImpX.here ⟨_, .cons (.tmp _ _ rfl) .nil, rfl⟩

set_option maxHeartbeats 4000000 in
theorem Q_fits_c [GI : GTab] {p0x0 : Image} {p1x0 : Version} {r : Bool} (h : Q_fits p0x0 p1x0 = some r) : Pu Tryz.prog 118 [.agg [I p0x0.Version.Major, I p0x0.Version.Minor, I p0x0.Version.Patch, .list 1 (p0x0.Models.map AV.str), .list 6 (p0x0.From.map Range.av), I p0x0.Size], .agg [I p1x0.Major, I p1x0.Minor, I p1x0.Patch]] (.bool r) := by
  unfold Q_fits at h
  refine ACall.bodyN Tryz.func118 rfl Tryz.ntmps118 Tryz.results118 rfl rfl ?_
  refine tSR <| n_box rfl rfl rfl rfl fun b1 => n_box rfl rfl rfl rfl fun b2 => rA rfl rfl <| rN <| tSR <| rF rfl rfl rfl <| rL rfl rfl .p1 rfl rfl <| ARun.qv (q_makeFunc rfl) rfl <| bndE h fun v3 e1 h => r_callpB rfl (slices_ContainsFunc_Range_Range_c (fun e => Q_fits_1x_c e) e1) (.cons (.co (.refl _)) (.cons (.funcL _ _ _ (.cons (.boxL _ _ _ .p0 (.cons (.co (.refl _)) (.cons (.co (.refl _)) (.cons (.co (.refl _)) .nil)))) .nil)) .nil)) rfl rfl <| rA rfl rfl <| rN <| ATodo.ret <| ?_
  obtain rfl := Option.some.inj h
  exact ImpX.here ⟨_, .cons (.tmp _ _ rfl) .nil, rfl⟩

set_option maxHeartbeats 4000000 in
theorem Q_rangesFault_c [GI : GTab] {p0x0 : Image} {r : Int} (h : Q_rangesFault p0x0 = some r) : Pu Tryz.prog 112 [.agg [I p0x0.Version.Major, I p0x0.Version.Minor, I p0x0.Version.Patch, .list 1 (p0x0.Models.map AV.str), .list 6 (p0x0.From.map Range.av), I p0x0.Size]] (I r) := by
  unfold Q_rangesFault at h
  refine ACall.bodyN Tryz.func112 rfl Tryz.ntmps112 Tryz.results112 rfl rfl ?_
  refine tSR <| n_box rfl rfl rfl rfl fun b1 => rA rfl rfl <| rN <| tS <| tSR <| rF rfl rfl rfl <| rL rfl rfl .p0 rfl rfl <| ARun.qv (t_len rfl) rfl <| ARun.qv (q_gtr rfl rfl) rfl <| rN <| ATodo.cond_d rfl (fun hc => ?_) (fun hc => ?_)
  · refine have h := iteT hc h; tSR <| rA rfl rfl <| rN <| ATodo.ret <| ?_
    obtain rfl := Option.some.inj h
    exact ImpX.here ⟨_, .cons (.tmp _ _ rfl) .nil, rfl⟩
  · refine have h := iteF hc h; tK <| tS <| tSR <| rF rfl rfl rfl <| rL rfl rfl .p0 rfl rfl <| ARun.qv (t_len rfl) rfl <| rM rfl rfl <| rN <| ATodo.block <| ATodo.loopI (fun x : Int => Q_rangesFault_b1 p0x0 x) (fun x σ' => σ' = ⟨64, [(1, .ptr b1 0), (13, .list 6 (p0x0.From.map Range.av)), (14, I (p0x0.From.length : Int)), (15, I x)], [(b1, .cells [I p0x0.Version.Major, I p0x0.Version.Minor, I p0x0.Version.Patch, .list 1 (p0x0.Models.map AV.str), .list 6 (p0x0.From.map Range.av), I p0x0.Size])]⟩) h ?_ ?_
    · exact ImpX.lq [0] rfl rfl rfl
    · intro n3 z1 σ' J1 hmk h hJ1 hA1
      obtain rfl := hmk
      replace h : Q_rangesFault_b1 p0x0 n3 = some z1 := h
      unfold Q_rangesFault_b1 at h
      refine tSR <| ARun.qv (q_lss rfl rfl) rfl <| rN <| tS <| ATodo.cond_d rfl (fun hc => ?_) (fun hc => ?_)
      · refine have h := iteT hc h; tK <| tS <| ATodo.block <| tSR <| rM rfl rfl <| bndE h fun v4 e1 h => ARun.qv (t_index rfl rfl rfl e1 rfl rfl) rfl <| ARun.qv (q_load_rptr_agg rfl rfl rfl) rfl <| n_alloc rfl rfl rfl rfl fun b5 => rA rfl rfl <| n_store_ptr rfl rfl rfl rfl .p0 rfl rfl <| rN <| tS <| tSR <| rF rfl rfl rfl <| ARun.qv (n_load_ptr_part rfl rfl .p0 rfl rfl) rfl <| rF rfl rfl rfl <| ARun.qv (n_load_ptr_part rfl rfl .p0 rfl rfl) rfl <| n_buildSliceL (xs := ([v4.Low, v4.High] : List Version).map Version.av) rfl rfl rfl rfl rfl rfl <| ARun.qv (t_len rfl) rfl <| rM rfl rfl <| rN <| ATodo.block <| ATodo.loopI (fun x : Int => Q_rangesFault_b2 p0x0 n3 v4 x) (fun x σ' => σ' = ⟨64, [(1, .ptr b1 0), (3, I n3), (4, .ptr b5 0), (13, .list 6 (p0x0.From.map Range.av)), (14, I (p0x0.From.length : Int)), (15, I n3), (24, .list 3 ([v4.Low, v4.High].map Version.av)), (25, I ([v4.Low, v4.High].length : Int)), (26, I x)], [(b1, .cells [I p0x0.Version.Major, I p0x0.Version.Minor, I p0x0.Version.Patch, .list 1 (p0x0.Models.map AV.str), .list 6 (p0x0.From.map Range.av), I p0x0.Size]), (b5, .cells [I v4.Low.Major, I v4.Low.Minor, I v4.Low.Patch, I v4.High.Major, I v4.High.Minor, I v4.High.Patch])]⟩) h ?_ ?_
        · exact ImpX.lq [1, 0] rfl rfl rfl
        · intro n7 z2 σ' J2 hmk h hJ2 hA2
          obtain rfl := hmk
          replace h : Q_rangesFault_b2 p0x0 n3 v4 n7 = some z2 := h
          unfold Q_rangesFault_b2 at h
          refine tSR <| ARun.qv (q_lss rfl rfl) rfl <| rN <| tS <| ATodo.cond_d rfl (fun hc => ?_) (fun hc => ?_)
          · refine have h := iteT hc h; tK <| tS <| ATodo.block <| tSR <| bndE h fun v8 e2 h => ARun.qv (t_index rfl rfl rfl e2 rfl rfl) rfl <| ARun.qv (q_load_rptr_agg rfl rfl rfl) rfl <| n_alloc rfl rfl rfl rfl fun b9 => n_store_ptr rfl rfl rfl rfl .p0 rfl rfl <| rN <| tSR <| ARun.qv (q_load_ptr_all rfl rfl .p0 rfl) rfl <| r_callp rfl (Q_versionFault_c rfl) (CoL.refl _) rfl <| rA rfl rfl <| rN <| tSR <| rM rfl rfl <| ARun.qv (q_neq rfl rfl) rfl <| rN <| ATodo.cond_d rfl (fun hc => ?_) (fun hc => ?_)
            · refine have h := iteT hc h; tSR <| rM rfl rfl <| rA rfl rfl <| rN <| ATodo.ret <| have h := outL h hA2; have h := outL h hA1; ?_
              obtain rfl := Option.some.inj h
              exact ImpX.here ⟨_, .cons (.tmp _ _ rfl) .nil, rfl⟩
            · refine have h := iteF hc h; tK <| ATodo.blk <| tR <| ARun.qv (q_addw rfl rfl) rfl <| rM rfl rfl <| rN <| ATodo.stop <| ?_
              obtain rfl := Option.some.inj h
              exact hJ2 _ _ rfl <| ImpX.lq [1, 1] rfl rfl rfl
          · refine have h := iteF hc h; ATodo.exit rfl <| have h := outL h hA2; ?_
            unfold Q_rangesFault_k2 at h
            refine ATodo.block <| tSR <| rF rfl rfl rfl <| ARun.qv (n_load_ptr_part rfl rfl .p1 rfl rfl) rfl <| rF rfl rfl rfl <| ARun.qv (n_load_ptr_part rfl rfl .p1 rfl rfl) rfl <| bndE h fun v10 e3 h => r_callp rfl (Q_VersionOrder_c e3) (CoL.refl _) rfl <| ARun.qv (q_gtr rfl rfl) rfl <| rA rfl rfl <| rN <| ATodo.cond_d rfl (fun hc => ?_) (fun hc => ?_)
            · refine have h := iteT hc h; tSR <| rA rfl rfl <| rN <| ATodo.ret <| have h := outL h hA1; ?_
              obtain rfl := Option.some.inj h
              exact ImpX.here ⟨_, .cons (.tmp _ _ rfl) .nil, rfl⟩
            · refine have h := iteF hc h; tS <| ATodo.cut (fun σ' => ∃ (c11 : Bool), Q_rangesFault_j1 n3 c11 = some z1 ∧ σ' = ⟨64, [(1, .ptr b1 0), (13, .list 6 (p0x0.From.map Range.av)), (14, I (p0x0.From.length : Int)), (15, I n3), (43, .bool c11)], [(b1, .cells [I p0x0.Version.Major, I p0x0.Version.Minor, I p0x0.Version.Patch, .list 1 (p0x0.Models.map AV.str), .list 6 (p0x0.From.map Range.av), I p0x0.Size])]⟩) ?_ ?_
              · refine ATodo.regionM (id := 15) (A := [0, 1, 3, 7, 15, 7, 39, 7, 135, 487, 999, 2023, 4095, 8191, 16383, 32767]) 16 mixed rfl (by kernel_rfl) (by kernel_rfl) <| AM.qv (q_move rfl) rfl <| AM.qv (q_gtr rfl rfl) rfl <| AM.qv (q_move rfl) rfl <| AM.guard_dt rfl rfl rfl (fun hc => ?_) (fun hc => ?_)
                · exact have h := iteT hc h; AM.qv (n_field_ptr rfl rfl) rfl <| AM.guard_yes rfl rfl rfl <| AM.qv (n_load_ptr_part rfl rfl .p1 rfl rfl) rfl <| AM.guard_yes rfl rfl rfl <| AM.qv (n_field_ptr rfl rfl) rfl <| AM.guard_yes rfl rfl rfl <| AM.qv (q_load_ptr rfl rfl .p0 rfl) rfl <| AM.guard_yes rfl rfl rfl <| AM.qv (q_move rfl) rfl <| AM.guard_yes rfl rfl rfl <| AM.qv (q_subw rfl rfl) rfl <| AM.guard_yes rfl rfl rfl <| bndE h fun v12 e4 h => AM.qv (t_index rfl rfl rfl e4 rfl rfl) rfl <| AM.guard_yes rfl rfl rfl <| AM.qv (n_field_rptr rfl rfl) rfl <| AM.guard_yes rfl rfl rfl <| AM.qv (q_load_rptr_agg rfl rfl rfl) rfl <| AM.guard_yes rfl rfl rfl <| bndE h fun v13 e5 h => AM.callp rfl (Q_VersionOrder_c e5) (CoL.refl _) rfl <| AM.guard_yes rfl rfl rfl <| AM.qv (q_leq rfl rfl) rfl <| AM.qv (q_pick_t rfl rfl) rfl <| AM.qv (q_assign rfl) rfl <| AM.nil <| rN <| ATodo.stop <| ImpX.lq [0] ⟨decide (v13 ≤ (0 : Int)), h, rfl⟩ rfl rfl
                · exact have h := iteF hc h; AM.guard_no rfl rfl rfl rfl <| AM.guard_no rfl rfl rfl rfl <| AM.guard_no rfl rfl rfl rfl <| AM.guard_no rfl rfl rfl rfl <| AM.guard_no rfl rfl rfl rfl <| AM.guard_no rfl rfl rfl rfl <| AM.guard_no rfl rfl rfl rfl <| AM.guard_no rfl rfl rfl rfl <| AM.guard_no rfl rfl rfl rfl <| AM.guard_no rfl rfl rfl rfl <| AM.qv (q_pick_f rfl rfl) rfl <| AM.qv (q_assign rfl) rfl <| AM.nil <| rN <| ATodo.stop <| ImpX.lq [0] ⟨false, h, rfl⟩ rfl rfl
              · rintro σ' ⟨c11, h, rfl⟩
                unfold Q_rangesFault_j1 at h
                refine ATodo.cond rfl (fun hc => ?_) (fun hc => ?_)
                · refine have h := iteT hc h; tSR <| rA rfl rfl <| rN <| ATodo.ret <| have h := outL h hA1; ?_
                  obtain rfl := Option.some.inj h
                  exact ImpX.here ⟨_, .cons (.tmp _ _ rfl) .nil, rfl⟩
                · refine have h := iteFb hc h; tK <| ATodo.blk <| ATodo.blk <| tR <| ARun.qv (q_addw rfl rfl) rfl <| rM rfl rfl <| rN <| ATodo.stop <| ?_
                  obtain rfl := Option.some.inj h
                  exact hJ1 _ _ rfl <| ImpX.lq [0] rfl rfl rfl
      · refine have h := iteF hc h; ATodo.exit rfl <| have h := outL h hA1; ?_
        unfold Q_rangesFault_k3 at h
        refine tS <| tSR <| ARun.qv (q_load_ptr_all rfl rfl .p0 rfl) rfl <| rF rfl rfl rfl <| ARun.qv (n_load_ptr_part rfl rfl .p0 rfl rfl) rfl <| bndE h fun v14 e6 h => r_callp rfl (Q_fits_c e6) (CoL.refl _) rfl <| rN <| ATodo.cond rfl (fun hc => ?_) (fun hc => ?_)
        · refine have h := iteT hc h; tSR <| rA rfl rfl <| rN <| ATodo.ret <| ?_
          obtain rfl := Option.some.inj h
          exact ImpX.here ⟨_, .cons (.tmp _ _ rfl) .nil, rfl⟩
        · refine have h := iteFb hc h; tK <| tSR <| rA rfl rfl <| rN <| ATodo.ret <| ?_
          obtain rfl := Option.some.inj h
          exact ImpX.here ⟨_, .cons (.tmp _ _ rfl) .nil, rfl⟩

set_option maxHeartbeats 4000000 in
theorem Q_ImagesFault_c [GI : GTab] {p0x0 : List Image} {r : Int} (h : Q_ImagesFault p0x0 = some r) : Pu Tryz.prog 48 [.list 6 (p0x0.map Image.av)] (I r) := by
  unfold Q_ImagesFault at h
  refine ACall.bodyN Tryz.func48 rfl Tryz.ntmps48 Tryz.results48 rfl rfl ?_
  refine tSR <| rA rfl rfl <| rN <| tS <| tSR <| rM rfl rfl <| ARun.qv (t_len rfl) rfl <| ARun.qv (q_gtr rfl rfl) rfl <| rN <| ATodo.cond_d rfl (fun hc => ?_) (fun hc => ?_)
  · refine have h := iteT hc h; tSR <| rA rfl rfl <| rN <| ATodo.ret <| ?_
    obtain rfl := Option.some.inj h
    exact ImpX.here ⟨_, .cons (.tmp _ _ rfl) .nil, rfl⟩
  · refine have h := iteF hc h; tK <| tS <| tSR <| rM rfl rfl <| ARun.qv (t_len rfl) rfl <| rM rfl rfl <| rN <| ATodo.block <| ATodo.loopI (fun x : Int => Q_ImagesFault_b1 p0x0 x) (fun x σ' => σ' = ⟨84, [(0, .list 6 (p0x0.map Image.av)), (12, .list 6 (p0x0.map Image.av)), (13, I (p0x0.length : Int)), (14, I x)], []⟩) h ?_ ?_
    · exact ImpX.lq [] rfl rfl rfl
    · intro n2 z1 σ' J1 hmk h hJ1 hA1
      obtain rfl := hmk
      replace h : Q_ImagesFault_b1 p0x0 n2 = some z1 := h
      unfold Q_ImagesFault_b1 at h
      refine tSR <| ARun.qv (q_lss rfl rfl) rfl <| rN <| tS <| ATodo.cond_d rfl (fun hc => ?_) (fun hc => ?_)
      · refine have h := iteT hc h; tK <| tS <| ATodo.block <| tSR <| rM rfl rfl <| bndE h fun v3 e1 h => ARun.qv (t_index rfl rfl rfl e1 rfl rfl) rfl <| ARun.qv (q_load_rptr_agg rfl rfl rfl) rfl <| n_alloc rfl rfl rfl rfl fun b4 => rA rfl rfl <| n_store_ptr rfl rfl rfl rfl .p0 rfl rfl <| rN <| tS <| tSR <| rF rfl rfl rfl <| ARun.qv (n_load_ptr_part rfl rfl .p0 rfl rfl) rfl <| r_callp rfl (Q_versionFault_c rfl) (CoL.refl _) rfl <| rA rfl rfl <| rN <| tSR <| rM rfl rfl <| ARun.qv (q_neq rfl rfl) rfl <| rN <| ATodo.cond_d rfl (fun hc => ?_) (fun hc => ?_)
        · refine have h := iteT hc h; tSR <| rM rfl rfl <| rA rfl rfl <| rN <| ATodo.ret <| have h := outL h hA1; ?_
          obtain rfl := Option.some.inj h
          exact ImpX.here ⟨_, .cons (.tmp _ _ rfl) .nil, rfl⟩
        · refine have h := iteF hc h; tK <| tS <| ATodo.block <| tS <| ATodo.cut (fun σ' => ∃ (c5 : Bool), Q_ImagesFault_j1 n2 v3 c5 = some z1 ∧ σ' = ⟨84, [(0, .list 6 (p0x0.map Image.av)), (4, .ptr b4 0), (12, .list 6 (p0x0.map Image.av)), (13, I (p0x0.length : Int)), (14, I n2), (25, .bool c5)], [(b4, .cells [I v3.Version.Major, I v3.Version.Minor, I v3.Version.Patch, .list 1 (v3.Models.map AV.str), .list 6 (v3.From.map Range.av), I v3.Size])]⟩) ?_ ?_
          · refine ATodo.regionM (id := 9) (A := [0, 1, 3, 7, 7, 23, 63, 127, 255, 7, 519, 2047, 4095, 8191, 16383]) 15 mixed rfl (by kernel_rfl) (by kernel_rfl) <| AM.qv (q_move rfl) rfl <| AM.qv (q_gtr rfl rfl) rfl <| AM.qv (q_move rfl) rfl <| AM.guard_dt rfl rfl rfl (fun hc => ?_) (fun hc => ?_)
            · exact have h := iteT hc h; AM.qv (q_move rfl) rfl <| AM.guard_yes rfl rfl rfl <| AM.qv (q_move rfl) rfl <| AM.guard_yes rfl rfl rfl <| AM.qv (q_subw rfl rfl) rfl <| AM.guard_yes rfl rfl rfl <| bndE h fun v6 e2 h => AM.qv (t_index rfl rfl rfl e2 rfl rfl) rfl <| AM.guard_yes rfl rfl rfl <| AM.qv (n_field_rptr rfl rfl) rfl <| AM.guard_yes rfl rfl rfl <| AM.qv (n_load_rptr_part rfl rfl rfl rfl) rfl <| AM.guard_yes rfl rfl rfl <| AM.qv (n_field_ptr rfl rfl) rfl <| AM.guard_yes rfl rfl rfl <| AM.qv (n_load_ptr_part rfl rfl .p0 rfl rfl) rfl <| AM.guard_yes rfl rfl rfl <| bndE h fun v7 e3 h => AM.callp rfl (Q_VersionOrder_c e3) (CoL.refl _) rfl <| AM.guard_yes rfl rfl rfl <| AM.qv (q_geq rfl rfl) rfl <| AM.qv (q_pick_t rfl rfl) rfl <| AM.qv (q_assign rfl) rfl <| AM.nil <| rN <| ATodo.stop <| ImpX.lq [0] ⟨decide ((0 : Int) ≤ v7), h, rfl⟩ rfl rfl
            · exact have h := iteF hc h; AM.guard_no rfl rfl rfl rfl <| AM.guard_no rfl rfl rfl rfl <| AM.guard_no rfl rfl rfl rfl <| AM.guard_no rfl rfl rfl rfl <| AM.guard_no rfl rfl rfl rfl <| AM.guard_no rfl rfl rfl rfl <| AM.guard_no rfl rfl rfl rfl <| AM.guard_no rfl rfl rfl rfl <| AM.guard_no rfl rfl rfl rfl <| AM.qv (q_pick_f rfl rfl) rfl <| AM.qv (q_assign rfl) rfl <| AM.nil <| rN <| ATodo.stop <| ImpX.lq [0] ⟨false, h, rfl⟩ rfl rfl
          · rintro σ' ⟨c5, h, rfl⟩
            unfold Q_ImagesFault_j1 at h
            refine ATodo.cond rfl (fun hc => ?_) (fun hc => ?_)
            · refine have h := iteT hc h; tSR <| rA rfl rfl <| rN <| ATodo.ret <| have h := outL h hA1; ?_
              obtain rfl := Option.some.inj h
              exact ImpX.here ⟨_, .cons (.tmp _ _ rfl) .nil, rfl⟩
            · refine have h := iteFb hc h; tSR <| rF rfl rfl rfl <| rL rfl rfl .p0 rfl rfl <| ARun.qv (t_len rfl) rfl <| ARun.qv (q_eql rfl rfl) rfl <| rA rfl rfl <| rN <| ATodo.cond_d rfl (fun hc => ?_) (fun hc => ?_)
              · refine have h := iteT hc h; tSR <| rA rfl rfl <| rN <| ATodo.ret <| have h := outL h hA1; ?_
                obtain rfl := Option.some.inj h
                exact ImpX.here ⟨_, .cons (.tmp _ _ rfl) .nil, rfl⟩
              · refine have h := iteF hc h; tSR <| rF rfl rfl rfl <| rL rfl rfl .p0 rfl rfl <| ARun.qv (t_len rfl) rfl <| ARun.qv (q_gtr rfl rfl) rfl <| rA rfl rfl <| rN <| ATodo.cond_d rfl (fun hc => ?_) (fun hc => ?_)
                · refine have h := iteT hc h; tSR <| rA rfl rfl <| rN <| ATodo.ret <| have h := outL h hA1; ?_
                  obtain rfl := Option.some.inj h
                  exact ImpX.here ⟨_, .cons (.tmp _ _ rfl) .nil, rfl⟩
                · refine have h := iteF hc h; tK <| ATodo.blk <| tS <| tSR <| rF rfl rfl rfl <| rL rfl rfl .p0 rfl rfl <| ARun.qv (t_len rfl) rfl <| rM rfl rfl <| rN <| ATodo.block <| ATodo.loopI (fun x : Int => Q_ImagesFault_b2 n2 v3 x) (fun x σ' => σ' = ⟨84, [(0, .list 6 (p0x0.map Image.av)), (4, .ptr b4 0), (12, .list 6 (p0x0.map Image.av)), (13, I (p0x0.length : Int)), (14, I n2), (51, .list 1 (v3.Models.map AV.str)), (52, I (v3.Models.length : Int)), (53, I x)], [(b4, .cells [I v3.Version.Major, I v3.Version.Minor, I v3.Version.Patch, .list 1 (v3.Models.map AV.str), .list 6 (v3.From.map Range.av), I v3.Size])]⟩) h ?_ ?_
                  · exact ImpX.lq [0] rfl rfl rfl
                  · intro n9 z2 σ' J2 hmk h hJ2 hA2
                    obtain rfl := hmk
                    replace h : Q_ImagesFault_b2 n2 v3 n9 = some z2 := h
                    unfold Q_ImagesFault_b2 at h
                    refine tSR <| ARun.qv (q_lss rfl rfl) rfl <| rN <| tS <| ATodo.cond_d rfl (fun hc => ?_) (fun hc => ?_)
                    · refine have h := iteT hc h; tK <| tS <| ATodo.block <| tSR <| rM rfl rfl <| bndE h fun v10 e4 h => ARun.qv (t_index rfl rfl rfl e4 rfl rfl) rfl <| ARun.qv (q_load_rptr rfl rfl rfl) rfl <| rA rfl rfl <| rA rfl rfl <| rN <| tS <| tSR <| rM rfl rfl <| bndE h fun v11 e5 h => r_callp rfl (Q_Key_c e5) (CoL.refl _) rfl <| ARun.qv (q_not rfl) rfl <| rN <| ATodo.cond rfl (fun hc => ?_) (fun hc => ?_)
                      · refine have h := iteT hc h; tSR <| rA rfl rfl <| rN <| ATodo.ret <| have h := outL h hA2; have h := outL h hA1; ?_
                        obtain rfl := Option.some.inj h
                        exact ImpX.here ⟨_, .cons (.tmp _ _ rfl) .nil, rfl⟩
                      · refine have h := iteFb hc h; tK <| tS <| ATodo.cut (fun σ' => ∃ (c12 : Bool), Q_ImagesFault_j2 n9 c12 = some z2 ∧ σ' = ⟨84, [(0, .list 6 (p0x0.map Image.av)), (4, .ptr b4 0), (12, .list 6 (p0x0.map Image.av)), (13, I (p0x0.length : Int)), (14, I n2), (51, .list 1 (v3.Models.map AV.str)), (52, I (v3.Models.length : Int)), (53, I n9), (72, .bool c12)], [(b4, .cells [I v3.Version.Major, I v3.Version.Minor, I v3.Version.Patch, .list 1 (v3.Models.map AV.str), .list 6 (v3.From.map Range.av), I v3.Size])]⟩) ?_ ?_
                        · refine tR <| rM rfl rfl <| ARun.qv (q_gtr rfl rfl) rfl <| rM rfl rfl <| ARun.guard_dt rfl rfl rfl (fun hc => ?_) (fun hc => ?_)
                          · exact have h := iteT hc h; rM rfl rfl <| rY rfl rfl rfl <| rF rfl rfl rfl <| rY rfl rfl rfl <| rL rfl rfl .p0 rfl rfl <| rY rfl rfl rfl <| rM rfl rfl <| rY rfl rfl rfl <| ARun.qv (q_subw rfl rfl) rfl <| rY rfl rfl rfl <| bndE h fun v13 e6 h => ARun.qv (t_index rfl rfl rfl e6 rfl rfl) rfl <| rY rfl rfl rfl <| ARun.qv (q_load_rptr rfl rfl rfl) rfl <| rY rfl rfl rfl <| ARun.qv (t_sleq rfl rfl) rfl <| rT rfl rfl rfl <| rN <| ATodo.stop <| ImpX.lq [0] ⟨Op.bytesLess v10 v13 || v10 == v13, h, rfl⟩ rfl rfl
                          · exact have h := iteF hc h; rG rfl rfl rfl rfl <| rG rfl rfl rfl rfl <| rG rfl rfl rfl rfl <| rG rfl rfl rfl rfl <| rG rfl rfl rfl rfl <| rG rfl rfl rfl rfl <| rG rfl rfl rfl rfl <| rE rfl rfl rfl <| rN <| ATodo.stop <| ImpX.lq [0] ⟨false, h, rfl⟩ rfl rfl
                        · rintro σ' ⟨c12, h, rfl⟩
                          unfold Q_ImagesFault_j2 at h
                          refine ATodo.cond rfl (fun hc => ?_) (fun hc => ?_)
                          · refine have h := iteT hc h; tSR <| rA rfl rfl <| rN <| ATodo.ret <| have h := outL h hA2; have h := outL h hA1; ?_
                            obtain rfl := Option.some.inj h
                            exact ImpX.here ⟨_, .cons (.tmp _ _ rfl) .nil, rfl⟩
                          · refine have h := iteFb hc h; tK <| ATodo.blk <| tR <| ARun.qv (q_addw rfl rfl) rfl <| rM rfl rfl <| rN <| ATodo.stop <| ?_
                            obtain rfl := Option.some.inj h
                            exact hJ2 _ _ rfl <| ImpX.lq [0] rfl rfl rfl
                    · refine have h := iteF hc h; ATodo.exit rfl <| have h := outL h hA2; ?_
                      unfold Q_ImagesFault_k3 at h
                      refine tS <| tSR <| ARun.qv (q_load_ptr_all rfl rfl .p0 rfl) rfl <| bndE h fun v14 e7 h => r_callp rfl (Q_rangesFault_c e7) (CoL.refl _) rfl <| rA rfl rfl <| rN <| tSR <| rM rfl rfl <| ARun.qv (q_neq rfl rfl) rfl <| rN <| ATodo.cond_d rfl (fun hc => ?_) (fun hc => ?_)
                      · refine have h := iteT hc h; tSR <| rM rfl rfl <| rA rfl rfl <| rN <| ATodo.ret <| have h := outL h hA1; ?_
                        obtain rfl := Option.some.inj h
                        exact ImpX.here ⟨_, .cons (.tmp _ _ rfl) .nil, rfl⟩
                      · refine have h := iteF hc h; tK <| tSR <| rF rfl rfl rfl <| rL rfl rfl .p0 rfl rfl <| r_callp rfl (Q_in_c rfl) (CoL.refl _) rfl <| ARun.qv (q_not rfl) rfl <| rN <| ATodo.cond rfl (fun hc => ?_) (fun hc => ?_)
                        · refine have h := iteT hc h; tSR <| rA rfl rfl <| rN <| ATodo.ret <| have h := outL h hA1; ?_
                          obtain rfl := Option.some.inj h
                          exact ImpX.here ⟨_, .cons (.tmp _ _ rfl) .nil, rfl⟩
                        · refine have h := iteFb hc h; tK <| ATodo.blk <| tR <| ARun.qv (q_addw rfl rfl) rfl <| rM rfl rfl <| rN <| ATodo.stop <| ?_
                          obtain rfl := Option.some.inj h
                          exact hJ1 _ _ rfl <| ImpX.lq [] rfl rfl rfl
      · refine have h := iteF hc h; ATodo.exit rfl <| have h := outL h hA1; tSR <| rA rfl rfl <| rN <| ATodo.ret <| ?_
        obtain rfl := Option.some.inj h
        exact ImpX.here ⟨_, .cons (.tmp _ _ rfl) .nil, rfl⟩

set_option maxHeartbeats 4000000 in
theorem L_when_c [GI : GTab] {p0x0 : Bool} {p1x0 : Int} {r : Int} (h : L_when p0x0 p1x0 = r) : Pu Tryz.prog 18 [.bool p0x0, I p1x0] (I r) := by
  unfold L_when at h
  refine ACall.bodyN Tryz.func18 rfl Tryz.ntmps18 Tryz.results18 rfl rfl ?_
  refine tSR <| rA rfl rfl <| rN <| tS <| tSR <| rM rfl rfl <| rN <| ATodo.cond rfl (fun hc => ?_) (fun hc => ?_)
  · refine have h := iteT hc h; tSR <| rM rfl rfl <| rA rfl rfl <| rN <| ATodo.ret <| ?_
    obtain rfl := h
    exact ImpX.here ⟨_, .cons (.tmp _ _ rfl) .nil, rfl⟩
  · refine have h := iteFb hc h; tK <| tSR <| rA rfl rfl <| rN <| ATodo.ret <| ?_
    obtain rfl := h
    exact ImpX.here ⟨_, .cons (.tmp _ _ rfl) .nil, rfl⟩

set_option maxHeartbeats 4000000 in
theorem L_errs_c [GI : GTab] {p0x0 : List Int} {r : Int} (h : L_errs p0x0 = some r) : Pu Tryz.prog 12 [.list 1 (p0x0.map I)] (I r) := by
  unfold L_errs at h
  refine ACall.bodyN Tryz.func12 rfl Tryz.ntmps12 Tryz.results12 rfl rfl ?_
  refine tSR <| rA rfl rfl <| rN <| tS <| tSR <| rM rfl rfl <| ARun.qv (t_len rfl) rfl <| rM rfl rfl <| rN <| ATodo.block <| ATodo.loopI (fun x : Int => L_errs_b1 p0x0 x) (fun x σ' => σ' = ⟨15, [(5, .list 1 (p0x0.map I)), (6, I (p0x0.length : Int)), (7, I x)], []⟩) h ?_ ?_
  · exact ImpX.lq [] rfl rfl rfl
  · intro n2 z1 σ' J1 hmk h hJ1 hA1
    obtain rfl := hmk
    replace h : L_errs_b1 p0x0 n2 = some z1 := h
    unfold L_errs_b1 at h
    refine tSR <| ARun.qv (q_lss rfl rfl) rfl <| rN <| tS <| ATodo.cond_d rfl (fun hc => ?_) (fun hc => ?_)
    · refine have h := iteT hc h; tK <| tS <| ATodo.block <| tSR <| bndE h fun v3 e1 h => ARun.qv (t_index rfl rfl rfl e1 rfl rfl) rfl <| ARun.qv (q_load_rptr rfl rfl rfl) rfl <| rA rfl rfl <| rN <| tSR <| rM rfl rfl <| ARun.qv (q_neq rfl rfl) rfl <| rN <| ATodo.cond_d rfl (fun hc => ?_) (fun hc => ?_)
      · refine have h := iteT hc h; tSR <| rM rfl rfl <| rA rfl rfl <| rN <| ATodo.ret <| have h := outL h hA1; ?_
        obtain rfl := Option.some.inj h
        exact ImpX.here ⟨_, .cons (.tmp _ _ rfl) .nil, rfl⟩
      · refine have h := iteF hc h; tK <| ATodo.blk <| tR <| ARun.qv (q_addw rfl rfl) rfl <| rM rfl rfl <| rN <| ATodo.stop <| ?_
        obtain rfl := Option.some.inj h
        exact hJ1 _ _ rfl <| ImpX.lq [] rfl rfl rfl
    · refine have h := iteF hc h; ATodo.exit rfl <| have h := outL h hA1; tSR <| rA rfl rfl <| rN <| ATodo.ret <| ?_
      obtain rfl := Option.some.inj h
      exact ImpX.here ⟨_, .cons (.tmp _ _ rfl) .nil, rfl⟩

set_option maxHeartbeats 4000000 in
theorem Q_VersionFault_c [GI : GTab] {p0x0 : Version} {r : Int} (h : Q_VersionFault p0x0 = r) : Pu Tryz.prog 50 [.agg [I p0x0.Major, I p0x0.Minor, I p0x0.Patch]] (I r) := by
  unfold Q_VersionFault at h
  refine ACall.bodyN Tryz.func50 rfl Tryz.ntmps50 Tryz.results50 rfl rfl ?_
  refine tSR <| n_box rfl rfl rfl rfl fun b1 => rA rfl rfl <| rN <| tSR <| ARun.qv (q_load_ptr_all rfl rfl .p0 rfl) rfl <| r_callp rfl (Q_versionFault_c rfl) (CoL.refl _) rfl <| rA rfl rfl <| rN <| ATodo.ret <| ?_
  obtain rfl := h
  exact ImpX.here ⟨_, .cons (.tmp _ _ rfl) .nil, rfl⟩

set_option maxHeartbeats 4000000 in
theorem slices_Clone_Image_Image_c [GI : GTab] {p0x0 : List Image} {r : (List Image)} (h : slices_Clone_Image_Image p0x0 = some r) : ACall Tryz.prog 168 [.list 6 (p0x0.map Image.av)] [] (T1 (fun d_0 => [(d_0, .arr 6 (r.map Image.av))]) (fun d_0 => .sl 6 d_0 0 r.length)) := by
  unfold slices_Clone_Image_Image at h
  refine ACall.lessH ?_
  refine ACall.bodyN Tryz.func168 rfl Tryz.ntmps168 Tryz.results168 rfl rfl ?_
  refine ATodo.seq ?_
  refine ATodo.region ?_
  refine ARun.qv (q_assign rfl) rfl ?_
  refine ARun.nil ?_
  refine ATodo.seq ?_
  refine ATodo.seq ?_
  refine ATodo.region ?_
  refine ARun.qv (q_move rfl) rfl ?_
  refine r_eqnil rfl rfl rfl rfl (fun c hc => ?_)
  refine ARun.nil ?_
  refine ATodo.cond rfl (fun hT => ?_) (fun hF => ?_)
  · obtain rfl := app_nil_some h (List.map_eq_nil_iff.1 (hc hT))
    refine ATodo.seq ?_
    refine ATodo.region ?_
    refine ARun.qv (q_assign rfl) rfl ?_
    refine ARun.nil ?_
    refine ATodo.ret ?_
    refine ImpX.arr (s := 2) 6 rfl (fun b1 => ?_)
    exact ImpX.here ⟨_, .cons (.tmp _ _ rfl) .nil, _, .cons .here .nil, ⟨b1, rfl, rfl⟩⟩
  · refine ATodo.skip ?_
    refine ATodo.seq ?_
    refine ATodo.region ?_
    refine n_buildSlice (xs := ([] : List Image).map Image.av) rfl rfl rfl rfl rfl rfl (fun b2 => ?_)
    refine ARun.qv (q_move rfl) rfl ?_
    refine t_append (g := Image.av) (Xs := []) rfl rfl rfl rfl rfl rfl rfl rfl (.list _) h (fun _ => .here) rfl (fun b3 => ?_)
    refine ARun.qv (q_assign rfl) rfl ?_
    refine ARun.nil ?_
    refine ATodo.ret ?_
    exact ImpX.here ⟨_, .cons (.tmp _ _ rfl) .nil, _, .cons .here .nil, ⟨b3, rfl, rfl⟩⟩

set_option maxHeartbeats 4000000 in
theorem Q_nextImages_1x_c [GI : GTab] {p0x0 : Image} {p1x0 : Str} {p2x0 : Version} {r : Bool} (h : Q_nextImages_1x p0x0 p1x0 p2x0 = some r) : Pu Tryz.prog 169 [.agg [I p0x0.Version.Major, I p0x0.Version.Minor, I p0x0.Version.Patch, .list 1 (p0x0.Models.map AV.str), .list 6 (p0x0.From.map Range.av), I p0x0.Size], .rptr [.str p1x0], .rptr [I p2x0.Major, I p2x0.Minor, I p2x0.Patch]] (.bool r) := by
  unfold Q_nextImages_1x at h
  refine ACall.bodyN Tryz.func169 rfl Tryz.ntmps169 Tryz.results169 rfl rfl ?_
  refine tSR <| n_box rfl rfl rfl rfl fun b1 => rA rfl rfl <| rN <| tS <| ATodo.cut (fun σ' => ∃ (c2 : Bool), Q_nextImages_1x_j1 c2 = some r ∧ σ' = ⟨16, [(4, .bool c2)], []⟩) ?_ ?_
  · refine tR <| rF rfl rfl rfl <| rL rfl rfl .p0 rfl rfl <| ARun.qv (q_load_rptr rfl rfl rfl) rfl <| bndE h fun v3 e1 h => r_callp rfl (slices_Contains_string_string_c e1) (CoL.refl _) rfl <| ARun.qv (q_not rfl) rfl <| rM rfl rfl <| ARun.guard rfl rfl rfl (fun hc => ?_) (fun hc => ?_)
    · exact have h := iteFb hc h; ARun.qv (q_load_ptr_all rfl rfl .p0 rfl) rfl <| rY rfl rfl rfl <| ARun.qv (q_load_rptr_agg rfl rfl rfl) rfl <| rY rfl rfl rfl <| bndE h fun v4 e2 h => r_callp rfl (Q_fits_c e2) (CoL.refl _) rfl <| rY rfl rfl rfl <| ARun.qv (q_not rfl) rfl <| rE rfl rfl rfl <| rA rfl rfl <| rN <| ATodo.stop <| ImpX.lq [] ⟨!v4, h, rfl⟩ rfl rfl
    · exact have h := iteT hc h; rG rfl rfl rfl rfl <| rG rfl rfl rfl rfl <| rG rfl rfl rfl rfl <| rT rfl rfl rfl <| rA rfl rfl <| rN <| ATodo.stop <| ImpX.lq [] ⟨true, h, rfl⟩ rfl rfl
  · rintro σ' ⟨c2, h, rfl⟩
    unfold Q_nextImages_1x_j1 at h
    refine ATodo.ret <| ?_
    obtain rfl := Option.some.inj h
    exact ImpX.here ⟨_, .cons (.tmp _ _ rfl) .nil, rfl⟩

set_option maxHeartbeats 4000000 in
theorem slices_IndexFunc_Image_Image_c [GI : GTab] {p0x0 : List Image} {fnb : Image → Option Bool} {fnb_F : FuncId} [IsFn Tryz.prog fnb_F] {fnb_C : List AV} (fnb_h : ∀ {y0 : _} {u : Bool}, fnb y0 = some u → Pu Tryz.prog fnb_F (.agg [I y0.Version.Major, I y0.Version.Minor, I y0.Version.Patch, .list 1 (y0.Models.map AV.str), .list 6 (y0.From.map Range.av), I y0.Size] ::  fnb_C) (.bool u)) {r : Int} (h : slices_IndexFunc_Image_Image p0x0 fnb = some r) : Pu Tryz.prog 226 [.list 6 (p0x0.map Image.av), .func (.func fnb_F) fnb_C] (I r) := by
  unfold slices_IndexFunc_Image_Image at h
  refine ACall.bodyN Tryz.func226 rfl Tryz.ntmps226 Tryz.results226 rfl rfl ?_
  refine tSR <| rA rfl rfl <| rN <| tS <| tSR <| rM rfl rfl <| ARun.qv (t_len rfl) rfl <| rM rfl rfl <| rN <| ATodo.block <| ATodo.loopI (fun x : Int => slices_IndexFunc_Image_Image_b1 p0x0 fnb x) (fun x σ' => σ' = ⟨19, [(0, .list 6 (p0x0.map Image.av)), (1, .func (.func fnb_F) fnb_C), (7, I (p0x0.length : Int)), (8, I x)], []⟩) h ?_ ?_
  · exact ImpX.lq [] rfl rfl rfl
  · intro n2 z1 σ' J1 hmk h hJ1 hA1
    obtain rfl := hmk
    replace h : slices_IndexFunc_Image_Image_b1 p0x0 fnb n2 = some z1 := h
    unfold slices_IndexFunc_Image_Image_b1 at h
    refine tSR <| ARun.qv (q_lss rfl rfl) rfl <| rN <| tS <| ATodo.cond_d rfl (fun hc => ?_) (fun hc => ?_)
    · refine have h := iteT hc h; tK <| tS <| ATodo.block <| tSR <| rM rfl rfl <| rA rfl rfl <| rN <| tSR <| rM rfl rfl <| rM rfl rfl <| rM rfl rfl <| bndE h fun v3 e1 h => ARun.qv (t_index rfl rfl rfl e1 rfl rfl) rfl <| ARun.qv (q_load_rptr_agg rfl rfl rfl) rfl <| bndE h fun v4 e2 h => r_callvp rfl rfl (fnb_h e2) (CoL.refl _) rfl <| rN <| ATodo.cond rfl (fun hc => ?_) (fun hc => ?_)
      · refine have h := iteT hc h; tSR <| rM rfl rfl <| rA rfl rfl <| rN <| ATodo.ret <| have h := outL h hA1; ?_
        obtain rfl := Option.some.inj h
        exact ImpX.here ⟨_, .cons (.tmp _ _ rfl) .nil, rfl⟩
      · refine have h := iteFb hc h; tK <| ATodo.blk <| tR <| ARun.qv (q_addw rfl rfl) rfl <| rM rfl rfl <| rN <| ATodo.stop <| ?_
        obtain rfl := Option.some.inj h
        exact hJ1 _ _ rfl <| ImpX.lq [] rfl rfl rfl
    · refine have h := iteF hc h; ATodo.exit rfl <| have h := outL h hA1; tSR <| rA rfl rfl <| rN <| ATodo.ret <| ?_
      obtain rfl := Option.some.inj h
      exact ImpX.here ⟨_, .cons (.tmp _ _ rfl) .nil, rfl⟩

end Go.Proofs.YtjelgjkccklfaaaGreatDoor

