/- The code computes the plain functions: proofs written by shal.py. -/
import Derived.Test.YtblakecmhjcdmaaDoorClkP
import Derived.Test.YtblakecmhjcdmaaDoorLib
set_option maxRecDepth 100000
set_option linter.unusedVariables false
set_option linter.unusedSimpArgs false
namespace Go.Proofs.YtblakecmhjcdmaaDoor
open Go Go.Eng Go.Proofs Go.Beacon
attribute [local irreducible] ARun ATodo AQ QV ACall ImpX AWp AM
instance eqg74 : EqGd Tryd.prog 74 := ⟨by kernel_rfl⟩
instance eqt74 : EqTy Tryd.prog 74 2 Offset.av := ⟨fun x y w S v u hv hu => by
  obtain ⟨vs, rfl, hl, ha⟩ := At.agg_inv hv
  obtain ⟨us, rfl, hl', ha'⟩ := At.agg_inv hu
  obtain ⟨v0, p0, q0⟩ := AtA.get hl ha (off := 0) rfl
  obtain ⟨u0, p0', q0'⟩ := AtA.get hl' ha' (off := 0) rfl
  obtain ⟨v1, p1, q1⟩ := AtA.get hl ha (off := 1) rfl
  obtain ⟨u1, p1', q1'⟩ := AtA.get hl' ha' (off := 1) rfl
  obtain ⟨v2, p2, q2⟩ := AtA.get hl ha (off := 2) rfl
  obtain ⟨u2, p2', q2'⟩ := AtA.get hl' ha' (off := 2) rfl
  refine EqR.cast (EqR.struct Tryd.underlying74 (by kernel_rfl) (.cons (by decide) (part_one rfl p0) (part_one rfl p0') (EqR.up (EqTy.h (g := I) x.Low y.Low w S _ _ q0 q0') 0)  (.cons (by decide) (part_one rfl p1) (part_one rfl p1') (EqR.up (EqTy.h (g := I) x.High y.High w S _ _ q1 q1') 0)  (.cons (by decide) (part_one rfl p2) (part_one rfl p2') (EqR.up (EqTy.h (g := I) x.Many y.Many w S _ _ q2 q2') 0) .nil)))) ?_
  obtain ⟨_, _, _⟩ := x
  obtain ⟨_, _, _⟩ := y
  rw [Bool.eq_iff_iff]; simp [and_assoc]⟩
set_option maxHeartbeats 4000000 in
theorem Below_c [GI : GTab] {p0x0 : Int} {p1x0 : Int} {r : Int} (h : Below p0x0 p1x0 = some r) : Pu Tryd.prog 98 [I p0x0, I p1x0] (I r) := by
  unfold Below at h
  refine ACall.bodyN Tryd.func98 rfl Tryd.ntmps98 Tryd.results98 rfl rfl ?_
  refine tSR <| rA rfl rfl <| rN <| tS <| tSR <| rM rfl rfl <| ARun.qv (q_lss rfl rfl) rfl <| rN <| ATodo.cond_d rfl (fun hc => ?_) (fun hc => ?_)
  · refine have h := iteT hc h; tSR <| rA rfl rfl <| rN <| ATodo.ret <| ?_
    obtain rfl := Option.some.inj h
    exact ImpX.here ⟨_, .cons (.tmp _ _ rfl) .nil, rfl⟩
  · refine have h := iteF hc h; tK <| tSR <| rM rfl rfl <| rM rfl rfl <| bndE h fun n1 e1 h => ARun.qv (t_remS rfl rfl e1) rfl <| rA rfl rfl <| rN <| tS <| tSR <| rM rfl rfl <| ARun.qv (q_lss rfl rfl) rfl <| rN <| ATodo.cut (fun σ' => ∃ (n2 : Int), Below_j1 n2 = some r ∧ σ' = ⟨16, [(0, I n2)], []⟩) ?_ ?_
    · refine ATodo.cond_d rfl (fun hc => ?_) (fun hc => ?_)
      · exact have h := iteT hc h; tR <| rM rfl rfl <| rM rfl rfl <| ARun.qv (q_addw rfl rfl) rfl <| rA rfl rfl <| rN <| ATodo.stop <| ImpX.lq [] ⟨w64 (n1 + p1x0), h, rfl⟩ rfl rfl
      · exact have h := iteF hc h; tK <| ATodo.stop <| ImpX.lq [] ⟨n1, h, rfl⟩ rfl rfl
    · rintro σ' ⟨n2, h, rfl⟩
      unfold Below_j1 at h
      refine tSR <| rM rfl rfl <| rA rfl rfl <| rN <| ATodo.ret <| ?_
      obtain rfl := Option.some.inj h
      exact ImpX.here ⟨_, .cons (.tmp _ _ rfl) .nil, rfl⟩

set_option maxHeartbeats 4000000 in
theorem Stream_Next_c [GI : GTab] {b_0 : Bk} {p0x0 : Fleetmake_Stream} {p1x0 : Int} {r : Int × Fleetmake_Stream} (h : Stream_Next p0x0 p1x0 = some r) : ACall Tryd.prog 53 [.ptr b_0 0, I p1x0] [(b_0, .cells [.list 1 (p0x0.L.map I), I p0x0.at_])] (T0 ([(b_0, .cells [.list 1 (r.2.L.map I), I r.2.at_])]) (I r.1)) := by
  unfold Stream_Next at h
  refine ACall.lessH ?_
  refine ACall.bodyN Tryd.func53 rfl Tryd.ntmps53 Tryd.results53 rfl rfl ?_
  refine tSR <| rA rfl rfl <| rN <| tSR <| rM rfl rfl <| ARun.qv (q_nilCheck_ptr rfl) rfl <| rF rfl rfl rfl <| rL rfl rfl .p0 rfl rfl <| ARun.qv (q_addw rfl rfl) rfl <| ARun.qv (q_nilCheck_ptr rfl) rfl <| rF rfl rfl rfl <| n_store_ptr rfl rfl rfl rfl .p0 rfl rfl <| rN <| tS <| tSR <| rM rfl rfl <| ARun.qv (q_nilCheck_ptr rfl) rfl <| rF rfl rfl rfl <| rL rfl rfl .p0 rfl rfl <| ARun.qv (t_len rfl) rfl <| ARun.qv (q_eql rfl rfl) rfl <| rN <| ATodo.cond_d rfl (fun hc => ?_) (fun hc => ?_)
  · refine have h := iteT hc h; tSR <| rM rfl rfl <| ARun.qv (q_nilCheck_ptr rfl) rfl <| rF rfl rfl rfl <| rL rfl rfl .p0 rfl rfl <| ARun.qv (q_mulw rfl rfl) rfl <| rM rfl rfl <| bndE h fun v1 e1 h => r_callp rfl (Below_c e1) (CoL.refl _) rfl <| rA rfl rfl <| rN <| ATodo.ret <| ?_
    obtain rfl := Option.some.inj h
    exact ImpX.here ⟨_, .cons (.tmp _ _ rfl) .nil, _, .cons .p0 .nil, ⟨rfl, rfl⟩⟩
  · refine have h := iteF hc h; tK <| tS <| ATodo.regionM (id := 4) (A := [0, 1, 3, 7, 15, 0, 32, 96, 224, 480, 1023, 2047]) 12 mixed rfl (by kernel_rfl) (by kernel_rfl) <| AM.qv (q_move rfl) rfl <| AM.qv (q_nilCheck_ptr rfl) rfl <| AM.qv (n_field_ptr rfl rfl) rfl <| AM.qv (q_load_ptr rfl rfl .p0 rfl) rfl <| AM.qv (q_subw rfl rfl) rfl <| AM.qv (q_move rfl) rfl <| AM.qv (q_nilCheck_ptr rfl) rfl <| AM.qv (n_field_ptr rfl rfl) rfl <| AM.qv (q_load_ptr rfl rfl .p0 rfl) rfl <| AM.qv (t_len rfl) rfl <| bndE h fun n2 e2 h => AM.qv (t_remS rfl rfl e2) rfl <| AM.qv (q_assign rfl) rfl <| AM.nil <| rN <| tS <| ATodo.regionM (id := 5) (A := [0, 1, 3, 7, 15, 0, 32, 96, 224, 480, 1023, 2047]) 12 mixed rfl (by kernel_rfl) (by kernel_rfl) <| AM.qv (q_move rfl) rfl <| AM.qv (q_nilCheck_ptr rfl) rfl <| AM.qv (n_field_ptr rfl rfl) rfl <| AM.qv (q_load_ptr rfl rfl .p0 rfl) rfl <| AM.qv (q_subw rfl rfl) rfl <| AM.qv (q_move rfl) rfl <| AM.qv (q_nilCheck_ptr rfl) rfl <| AM.qv (n_field_ptr rfl rfl) rfl <| AM.qv (q_load_ptr rfl rfl .p0 rfl) rfl <| AM.qv (t_len rfl) rfl <| bndE h fun n3 e3 h => AM.qv (t_quoS rfl rfl e3) rfl <| AM.qv (q_assign rfl) rfl <| AM.nil <| rN <| tSR <| rM rfl rfl <| ARun.qv (q_nilCheck_ptr rfl) rfl <| rF rfl rfl rfl <| rL rfl rfl .p0 rfl rfl <| rM rfl rfl <| bndE h fun v4 e4 h => ARun.qv (t_index rfl rfl rfl e4 rfl rfl) rfl <| ARun.qv (q_load_rptr rfl rfl rfl) rfl <| bndE h fun v5 e5 h => r_callp rfl (Below_c e5) (CoL.refl _) rfl <| rM rfl rfl <| rM rfl rfl <| ARun.qv (q_addw rfl rfl) rfl <| ARun.qv (q_mulw rfl rfl) rfl <| ARun.qv (q_addw rfl rfl) rfl <| rM rfl rfl <| bndE h fun v6 e6 h => r_callp rfl (Below_c e6) (CoL.refl _) rfl <| rA rfl rfl <| rN <| ATodo.ret <| ?_
    obtain rfl := Option.some.inj h
    exact ImpX.here ⟨_, .cons (.tmp _ _ rfl) .nil, _, .cons .p0 .nil, ⟨rfl, rfl⟩⟩

set_option maxHeartbeats 4000000 in
theorem Stream_Pick_c [GI : GTab] {b_0 : Bk} {p0x0 : Fleetmake_Stream} {p1x0 : List Int} {r : Int × Fleetmake_Stream} (h : Stream_Pick p0x0 p1x0 = some r) : ACall Tryd.prog 7 [.ptr b_0 0, .list 1 (p1x0.map I)] [(b_0, .cells [.list 1 (p0x0.L.map I), I p0x0.at_])] (T0 ([(b_0, .cells [.list 1 (r.2.L.map I), I r.2.at_])]) (I r.1)) := by
  unfold Stream_Pick at h
  refine ACall.lessH ?_
  refine ACall.bodyN Tryd.func7 rfl Tryd.ntmps7 Tryd.results7 rfl rfl ?_
  refine tSR <| rA rfl rfl <| rN <| tSR <| rM rfl rfl <| rM rfl rfl <| rM rfl rfl <| ARun.qv (t_len rfl) rfl <| bndE h fun v1 e1 h => t_call0 rfl (Stream_Next_c e1) (CoL.refl _) (.cons .p0 .nil) rfl rfl <| bndE h fun v2 e2 h => ARun.qv (t_index rfl rfl rfl e2 rfl rfl) rfl <| ARun.qv (q_load_rptr rfl rfl rfl) rfl <| rA rfl rfl <| rN <| ATodo.ret <| ?_
  obtain rfl := Option.some.inj h
  exact ImpX.here ⟨_, .cons (.tmp _ _ rfl) .nil, _, .cons .p0 .nil, ⟨rfl, rfl⟩⟩

set_option maxHeartbeats 4000000 in
theorem Stream_Flip_c [GI : GTab] {b_0 : Bk} {p0x0 : Fleetmake_Stream} {p1x0 : Int} {r : Bool × Fleetmake_Stream} (h : Stream_Flip p0x0 p1x0 = some r) : ACall Tryd.prog 10 [.ptr b_0 0, I p1x0] [(b_0, .cells [.list 1 (p0x0.L.map I), I p0x0.at_])] (T0 ([(b_0, .cells [.list 1 (r.2.L.map I), I r.2.at_])]) (.bool r.1)) := by
  unfold Stream_Flip at h
  refine ACall.lessH ?_
  refine ACall.bodyN Tryd.func10 rfl Tryd.ntmps10 Tryd.results10 rfl rfl ?_
  refine tSR <| rA rfl rfl <| rN <| tSR <| rM rfl rfl <| rM rfl rfl <| bndE h fun v1 e1 h => t_call0 rfl (Stream_Next_c e1) (CoL.refl _) (.cons .p0 .nil) rfl rfl <| ARun.qv (q_eql rfl rfl) rfl <| rA rfl rfl <| rN <| ATodo.ret <| ?_
  obtain rfl := Option.some.inj h
  exact ImpX.here ⟨_, .cons (.tmp _ _ rfl) .nil, _, .cons .p0 .nil, ⟨rfl, rfl⟩⟩

set_option maxHeartbeats 4000000 in
theorem Stream_Some_c [GI : GTab] {b_0 : Bk} {p0x0 : Fleetmake_Stream} {p1x0 : List Str} {r : Str × Fleetmake_Stream} (h : Stream_Some p0x0 p1x0 = some r) : ACall Tryd.prog 39 [.ptr b_0 0, .list 1 (p1x0.map AV.str)] [(b_0, .cells [.list 1 (p0x0.L.map I), I p0x0.at_])] (T0 ([(b_0, .cells [.list 1 (r.2.L.map I), I r.2.at_])]) (.str r.1)) := by
  unfold Stream_Some at h
  refine ACall.lessH ?_
  refine ACall.bodyN Tryd.func39 rfl Tryd.ntmps39 Tryd.results39 rfl rfl ?_
  refine tSR <| rA rfl rfl <| rN <| tSR <| rM rfl rfl <| rM rfl rfl <| rM rfl rfl <| ARun.qv (t_len rfl) rfl <| bndE h fun v1 e1 h => t_call0 rfl (Stream_Next_c e1) (CoL.refl _) (.cons .p0 .nil) rfl rfl <| bndE h fun v2 e2 h => ARun.qv (t_index rfl rfl rfl e2 rfl rfl) rfl <| ARun.qv (q_load_rptr rfl rfl rfl) rfl <| rA rfl rfl <| rN <| ATodo.ret <| ?_
  obtain rfl := Option.some.inj h
  exact ImpX.here ⟨_, .cons (.tmp _ _ rfl) .nil, _, .cons .p0 .nil, ⟨rfl, rfl⟩⟩

set_option maxHeartbeats 4000000 in
theorem Stream_Pings_c [GI : GTab] {b_0 : Bk} {p0x0 : Fleetmake_Stream} {r : (List Ping) × Fleetmake_Stream} (h : Stream_Pings p0x0 = some r) : ACall Tryd.prog 38 [.ptr b_0 0] [(b_0, .cells [.list 1 (p0x0.L.map I), I p0x0.at_])] (T1 (fun d_0 => [(b_0, .cells [.list 1 (r.2.L.map I), I r.2.at_]), (d_0, .arr 4 (r.1.map Ping.av))]) (fun d_0 => .sl 4 d_0 0 r.1.length)) := by
  unfold Stream_Pings at h
  refine ACall.lessH ?_
  refine ACall.bodyN Tryd.func38 rfl Tryd.ntmps38 Tryd.results38 rfl rfl ?_
  refine tSR <| rA rfl rfl <| rN <| tSR <| rA rfl rfl <| rN <| tS <| tSR <| n_buildSliceL (xs := ([([104, 97] : Str), ([104, 98] : Str)]).map AV.str) rfl rfl rfl rfl rfl rfl <| ARun.qv (t_len rfl) rfl <| rM rfl rfl <| rN <| ATodo.block <| ATodo.loopI (fun x : (List Int) × Int × (List Ping) × Int => Stream_Pings_b1 x.1 x.2.1 x.2.2.1 x.2.2.2) (fun x σ' => ∃ (b8 : Bk), σ' = ⟨95, [(0, .ptr b_0 0), (3, .sl 4 b8 0 x.2.2.1.length), (9, .list 1 ([([104, 97] : Str), ([104, 98] : Str)].map AV.str)), (10, I ([([104, 97] : Str), ([104, 98] : Str)].length : Int)), (11, I x.2.2.2)], [(b_0, .cells [.list 1 (x.1.map I), I x.2.1]), (b8, .arr 4 (x.2.2.1.map Ping.av))]⟩) h ?_ ?_
  · exact ImpX.arr (s := 3) 4 rfl fun b11 => ImpX.lq [1, 0] ⟨b11, rfl⟩ rfl rfl
  · intro x z1 σ' J1 hmk h hJ1 hA1
    obtain ⟨l6, n7, l9, n10⟩ := x
    obtain ⟨b8, rfl⟩ := hmk
    replace h : Stream_Pings_b1 l6 n7 l9 n10 = some z1 := h
    unfold Stream_Pings_b1 at h
    refine tSR <| ARun.qv (q_lss rfl rfl) rfl <| rN <| tS <| ATodo.cond_d rfl (fun hc => ?_) (fun hc => ?_)
    · refine have h := iteT hc h; tK <| tS <| ATodo.block <| tSR <| bndE h fun v12 e1 h => ARun.qv (t_index rfl rfl rfl e1 rfl rfl) rfl <| ARun.qv (q_load_rptr rfl rfl rfl) rfl <| rA rfl rfl <| rN <| tSR <| rM rfl rfl <| bndE h fun v13 e2 h => t_call0 rfl (Stream_Next_c e2) (CoL.refl _) (.cons .p0 .nil) rfl rfl <| rA rfl rfl <| rN <| tSR <| rM rfl rfl <| bndE h fun v14 e3 h => t_call0 rfl (Stream_Next_c e3) (CoL.refl _) (.cons .p0 .nil) rfl rfl <| rM rfl rfl <| rN <| ATodo.block <| ATodo.loopI (fun x : (List Int) × Int × (List Ping) × Int × Int => Stream_Pings_b2 n10 v12 v14 x.1 x.2.1 x.2.2.1 x.2.2.2.1 x.2.2.2.2) (fun x σ' => ∃ (b23 : Bk), σ' = ⟨95, [(0, .ptr b_0 0), (3, .sl 4 b23 0 x.2.2.1.length), (5, .str v12), (6, I x.2.2.2.1), (9, .list 1 ([([104, 97] : Str), ([104, 98] : Str)].map AV.str)), (10, I ([([104, 97] : Str), ([104, 98] : Str)].length : Int)), (11, I n10), (18, I v14.1), (19, I x.2.2.2.2)], [(b_0, .cells [.list 1 (x.1.map I), I x.2.1]), (b23, .arr 4 (x.2.2.1.map Ping.av))]⟩) h ?_ ?_
      · exact ImpX.lq [0, 0] ⟨b8, rfl⟩ rfl rfl
      · intro x z2 σ' J2 hmk h hJ2 hA2
        obtain ⟨l21, n22, l24, n25, n26⟩ := x
        obtain ⟨b23, rfl⟩ := hmk
        replace h : Stream_Pings_b2 n10 v12 v14 l21 n22 l24 n25 n26 = some z2 := h
        unfold Stream_Pings_b2 at h
        refine tSR <| ARun.qv (q_lss rfl rfl) rfl <| rN <| tS <| ATodo.cond_d rfl (fun hc => ?_) (fun hc => ?_)
        · refine have h := iteT hc h; tK <| tS <| ATodo.block <| tSR <| rM rfl rfl <| rM rfl rfl <| n_buildSliceL (xs := ([(0 : Int), (5 : Int), (10 : Int), (30 : Int)]).map I) rfl rfl rfl rfl rfl rfl <| bndE h fun v27 e4 h => t_call0 rfl (Stream_Pick_c e4) (CoL.refl _) (.cons .p0 .nil) rfl rfl <| ARun.qv (q_addw rfl rfl) rfl <| rA rfl rfl <| rN <| tSR <| rM rfl rfl <| rM rfl rfl <| rM rfl rfl <| rM rfl rfl <| rM rfl rfl <| n_buildSliceL (xs := ([(0 : Int), (3 : Int), (5 : Int), (20 : Int), (-10 : Int), (40 : Int)]).map I) rfl rfl rfl rfl rfl rfl <| bndE h fun v28 e5 h => t_call0 rfl (Stream_Pick_c e5) (CoL.refl _) (.cons .p0 .nil) rfl rfl <| ARun.qv (q_addw rfl rfl) rfl <| ARun.qv (q_max rfl rfl) rfl <| rM rfl rfl <| ARun.qv (n_build rfl rfl rfl rfl rfl) rfl <| n_buildSliceL (xs := ([(⟨v12, n25, max (0 : Int) (w64 (n25 + v28.1)), w64 (n25 + v27.1)⟩ : Ping)]).map Ping.av) rfl rfl rfl rfl rfl rfl <| bndE h fun l29 e6 h => t_append (g := Ping.av) rfl rfl rfl rfl rfl rfl rfl rfl (.list _) e6 (fun _ => .p1) rfl fun b30 => rA rfl rfl <| rN <| tR <| rM rfl rfl <| rM rfl rfl <| n_buildSliceL (xs := ([(1 : Int), (10 : Int)]).map I) rfl rfl rfl rfl rfl rfl <| bndE h fun v31 e7 h => t_call0 rfl (Stream_Pick_c e7) (CoL.refl _) (.cons .p0 .nil) rfl rfl <| ARun.qv (q_addw rfl rfl) rfl <| rA rfl rfl <| rN <| ATodo.blk <| tR <| ARun.qv (q_addw rfl rfl) rfl <| rM rfl rfl <| rN <| ATodo.stop <| ?_
          obtain rfl := Option.some.inj h
          exact hJ2 _ _ rfl <| ImpX.lq [0, 0] ⟨b30, rfl⟩ rfl rfl
        · refine have h := iteF hc h; ATodo.exit rfl <| have h := outL h hA2; ATodo.blk <| tR <| ARun.qv (q_addw rfl rfl) rfl <| rM rfl rfl <| rN <| ATodo.stop <| ?_
          obtain rfl := Option.some.inj h
          exact hJ1 _ _ rfl <| ImpX.lq [0, 0] ⟨b23, rfl⟩ rfl rfl
    · refine have h := iteF hc h; ATodo.exit rfl <| have h := outL h hA1; ?_
      unfold Stream_Pings_k3 at h
      refine tS <| tS <| ATodo.cut (fun σ' => ∃ (l32 : List Int) (n33 : Int) (c34 : Bool), Stream_Pings_j1 l9 l32 n33 c34 = some r ∧ σ' = ⟨95, [(0, .ptr b_0 0), (3, .sl 4 b8 0 l9.length), (52, .bool c34)], [(b_0, .cells [.list 1 (l32.map I), I n33]), (b8, .arr 4 (l9.map Ping.av))]⟩) ?_ ?_
      · refine tR <| rM rfl rfl <| ARun.qv (t_len_sl rfl) rfl <| ARun.qv (q_gtr rfl rfl) rfl <| rM rfl rfl <| ARun.guard_dt rfl rfl rfl (fun hc => ?_) (fun hc => ?_)
        · exact have h := iteT hc h; rM rfl rfl <| rY rfl rfl rfl <| bndE h fun v35 e8 h => t_call0 rfl (Stream_Flip_c e8) (CoL.refl _) (.cons .p0 .nil) rfl rfl <| rT rfl rfl rfl <| rN <| ATodo.stop <| ImpX.lq [0, 0] ⟨v35.2.L, v35.2.at_, v35.1, h, rfl⟩ rfl rfl
        · exact have h := iteF hc h; rG rfl rfl rfl rfl <| rE rfl rfl rfl <| rN <| ATodo.stop <| ImpX.lq [0, 0] ⟨l6, n7, false, h, rfl⟩ rfl rfl
      · rintro σ' ⟨l32, n33, c34, h, rfl⟩
        unfold Stream_Pings_j1 at h
        refine ATodo.cut (fun σ' => ∃ (l36 : List Int) (n37 : Int) (l38 : List Ping), Stream_Pings_j2 l36 n37 l38 = some r ∧ σ' = ⟨95, [(3, .sl 4 b8 0 l38.length)], [(b_0, .cells [.list 1 (l36.map I), I n37]), (b8, .arr 4 (l38.map Ping.av))]⟩) ?_ ?_
        · refine ATodo.cond rfl (fun hc => ?_) (fun hc => ?_)
          · refine have h := iteT hc h; tSR <| rM rfl rfl <| rM rfl rfl <| rM rfl rfl <| ARun.qv (t_len_sl rfl) rfl <| bndE h fun v39 e9 h => t_call0 rfl (Stream_Next_c e9) (CoL.refl _) (.cons .p0 .nil) rfl rfl <| bndE h fun v40 e10 h => ARun.qv (t_index_sl rfl rfl rfl e10) rfl <| rA rfl rfl <| rN <| bndE h fun v41 e11 h => bndE h fun v42 e12 h => bndE h fun v43 e13 h => ATodo.regionT (id := 15) (A := [0, 0, 0, 0, 0, 16, 48, 112, 240, 504, 0, 0, 2048, 6144, 14336, 30720, 65528, 0, 0, 262144, 786432, 1835008, 0, 4194304, 12582912, 29360128, 62914560, 133955584, 268435448, 536870905, 1073741817, 2147483641, 4294967291, 8589934587, 17179869179, 34359738367, 68719476735, 137438953471]) (H0 := [(b_0, .cells [.list 1 (v39.2.L.map I), I v39.2.at_]), (b8, .arr 4 (l9.map Ping.av))]) (HH := fun β => [(b_0, .cells [.list 1 (v43.2.L.map I), I v43.2.at_]), (b8, .arr 4 (((l9.set v39.1.toNat (⟨v41.1, v40.Sent, v40.Got, v40.Back⟩ : Ping)).set v39.1.toNat (⟨v41.1, v40.Sent, v42.1, v40.Back⟩ : Ping)).map Ping.av))]) 35 mixed rfl (by kernel_rfl) (by kernel_rfl) [⟨none, some 9, [], fun _ => (b_0, .cells [.list 1 (v39.2.L.map I), I v39.2.at_]), none⟩, ⟨none, some 31, [7, 14, 21, 25], fun _ => (b8, .arr 4 (l9.map Ping.av)), none⟩, ⟨some 9, some 16, [], fun _ => (b_0, .cells [.list 1 (v41.2.L.map I), I v41.2.at_]), none⟩, ⟨some 16, some 28, [], fun _ => (b_0, .cells [.list 1 (v42.2.L.map I), I v42.2.at_]), none⟩, ⟨some 28, none, [], fun _ => (b_0, .cells [.list 1 (v43.2.L.map I), I v43.2.at_]), none⟩, ⟨some 31, some 34, [], fun _ => (b8, .arr 4 ((l9.set v39.1.toNat (⟨v41.1, v40.Sent, v40.Got, v40.Back⟩ : Ping)).map Ping.av)), none⟩, ⟨some 34, none, [], fun _ => (b8, .arr 4 (((l9.set v39.1.toNat (⟨v41.1, v40.Sent, v40.Got, v40.Back⟩ : Ping)).set v39.1.toNat (⟨v41.1, v40.Sent, v42.1, v40.Back⟩ : Ping)).map Ping.av)), none⟩] [] rfl (by kernel_rfl) rfl (.cons .p0 (.cons .p0 .nil)) (fun _ => rfl) <| AT.am 7 rfl rfl <| AM.qv (q_move rfl) rfl <| AM.qv (q_move rfl) rfl <| AM.qv (q_move rfl) rfl <| AM.qv (q_move rfl) rfl <| AM.qv (q_move rfl) rfl <| AM.qv (q_nilCheck_aptr rfl) rfl <| AM.qv (t_field_aptr rfl rfl) rfl <| AM.nil <| AT.rd (Rs := [(b8, .arr 4 (l9.map Ping.av))]) (fun _ => rfl) rfl (fun _ => rfl) (fun _ => rfl) (t_load_aptr (g := Ping.av) rfl rfl (.inl .p0) e10 rfl) rfl <| AT.am 1 rfl rfl <| AM.buildSliceL (xs := ([v40.Hub, ([] : Str), ([65] : Str)]).map AV.str) rfl rfl rfl rfl rfl rfl <| AM.nil <| AT.runS (av := .str v41.1) (Ti := [(b_0, .cells [.list 1 (v39.2.L.map I), I v39.2.at_])]) (Pi := [(b_0, .cells [.list 1 (v41.2.L.map I), I v41.2.at_])]) (fun _ => rfl) (fun _ => rfl) (fun _ => rfl) rfl rfl rfl ?_ ?_
            · exact t_call0 rfl (Stream_Some_c e11) (CoL.refl _) (.cons .p0 .nil) rfl rfl <| ARun.nil ⟨_, rfl, rfl⟩
            refine AT.am 4 rfl rfl <| AM.qv (q_move rfl) rfl <| AM.qv (q_move rfl) rfl <| AM.qv (q_nilCheck_aptr rfl) rfl <| AM.qv (t_field_aptr rfl rfl) rfl <| AM.nil <| AT.rd (Rs := [(b8, .arr 4 (l9.map Ping.av))]) (fun _ => rfl) rfl (fun _ => rfl) (fun _ => rfl) (t_load_aptr (g := Ping.av) rfl rfl (.inl .p0) e10 rfl) rfl <| AT.am 1 rfl rfl <| AM.buildSliceL (xs := ([v40.Got, (-1 : Int), (345686400000 : Int)]).map I) rfl rfl rfl rfl rfl rfl <| AM.nil <| AT.runS (av := I v42.1) (Ti := [(b_0, .cells [.list 1 (v41.2.L.map I), I v41.2.at_])]) (Pi := [(b_0, .cells [.list 1 (v42.2.L.map I), I v42.2.at_])]) (fun _ => rfl) (fun _ => rfl) (fun _ => rfl) rfl rfl rfl ?_ ?_
            · exact t_call0 rfl (Stream_Pick_c e12) (CoL.refl _) (.cons .p0 .nil) rfl rfl <| ARun.nil ⟨_, rfl, rfl⟩
            refine AT.am 4 rfl rfl <| AM.qv (q_move rfl) rfl <| AM.qv (q_move rfl) rfl <| AM.qv (q_nilCheck_aptr rfl) rfl <| AM.qv (t_field_aptr rfl rfl) rfl <| AM.nil <| AT.rd (Rs := [(b8, .arr 4 (l9.map Ping.av))]) (fun _ => rfl) rfl (fun _ => rfl) (fun _ => rfl) (t_load_aptr (g := Ping.av) rfl rfl (.inl .p0) e10 rfl) rfl <| AT.am 3 rfl rfl <| AM.qv (q_move rfl) rfl <| AM.qv (q_nilCheck_aptr rfl) rfl <| AM.qv (t_field_aptr rfl rfl) rfl <| AM.nil <| AT.rd (Rs := [(b8, .arr 4 (l9.map Ping.av))]) (fun _ => rfl) rfl (fun _ => rfl) (fun _ => rfl) (t_load_aptr (g := Ping.av) rfl rfl (.inl .p0) e10 rfl) rfl <| AT.am 2 rfl rfl <| AM.qv (q_subw rfl rfl) rfl <| AM.buildSliceL (xs := ([v40.Back, w64 (v40.Sent - (1 : Int))]).map I) rfl rfl rfl rfl rfl rfl <| AM.nil <| AT.runS (av := I v43.1) (Ti := [(b_0, .cells [.list 1 (v42.2.L.map I), I v42.2.at_])]) (Pi := [(b_0, .cells [.list 1 (v43.2.L.map I), I v43.2.at_])]) (fun _ => rfl) (fun _ => rfl) (fun _ => rfl) rfl rfl rfl ?_ ?_
            · exact t_call0 rfl (Stream_Pick_c e13) (CoL.refl _) (.cons .p0 .nil) rfl rfl <| ARun.nil ⟨_, rfl, rfl⟩
            refine AT.am 2 rfl rfl <| AM.qv (q_nilCheck_aptr rfl) rfl <| AM.qv (t_field_aptr rfl rfl) rfl <| AM.nil <| AT.run0 (Ti := [(b8, .arr 4 (l9.map Ping.av))]) (Pi := [(b8, .arr 4 ((l9.set v39.1.toNat (⟨v41.1, v40.Sent, v40.Got, v40.Back⟩ : Ping)).map Ping.av))]) (fun _ => rfl) (fun _ => rfl) (fun _ => rfl) rfl rfl ?_ ?_
            · exact t_store_aptr1 (g := Ping.av) (el' := (⟨v41.1, v40.Sent, v40.Got, v40.Back⟩ : Ping)) rfl rfl rfl rfl e10 rfl .p0 rfl <| ARun.nil ⟨_, rfl⟩
            refine AT.am 2 rfl rfl <| AM.qv (q_nilCheck_aptr rfl) rfl <| AM.qv (t_field_aptr rfl rfl) rfl <| AM.nil <| AT.run0 (Ti := [(b8, .arr 4 ((l9.set v39.1.toNat (⟨v41.1, v40.Sent, v40.Got, v40.Back⟩ : Ping)).map Ping.av))]) (Pi := [(b8, .arr 4 (((l9.set v39.1.toNat (⟨v41.1, v40.Sent, v40.Got, v40.Back⟩ : Ping)).set v39.1.toNat (⟨v41.1, v40.Sent, v42.1, v40.Back⟩ : Ping)).map Ping.av))]) (fun _ => rfl) (fun _ => rfl) (fun _ => rfl) rfl rfl ?_ ?_
            · exact t_store_aptr1 (g := Ping.av) (el' := (⟨v41.1, v40.Sent, v42.1, v40.Back⟩ : Ping)) rfl rfl rfl rfl (idx_set_self (v := (⟨v41.1, v40.Sent, v40.Got, v40.Back⟩ : Ping)) e10) rfl .p0 rfl <| ARun.nil ⟨_, rfl⟩
            exact AT.nilN (fun _ => rfl) fun β => ARun.ghost <| ImpX.eqs (s := 3) (av' := .sl 4 b8 0 ((l9.set v39.1.toNat (⟨v41.1, v40.Sent, v40.Got, v40.Back⟩ : Ping)).set v39.1.toNat (⟨v41.1, v40.Sent, v42.1, v40.Back⟩ : Ping)).length) rfl (by simp) <| ImpX.here <| ARun.ghost <| ImpX.eqs (s := 53) (av' := .sl 4 b8 0 ((l9.set v39.1.toNat (⟨v41.1, v40.Sent, v40.Got, v40.Back⟩ : Ping)).set v39.1.toNat (⟨v41.1, v40.Sent, v42.1, v40.Back⟩ : Ping)).length) rfl (by simp) <| ImpX.here <| ARun.ghost <| ImpX.eqs (s := 55) (av' := .sl 4 b8 0 ((l9.set v39.1.toNat (⟨v41.1, v40.Sent, v40.Got, v40.Back⟩ : Ping)).set v39.1.toNat (⟨v41.1, v40.Sent, v42.1, v40.Back⟩ : Ping)).length) rfl (by simp) <| ImpX.here <| ARun.qv (q_nilCheck_aptr rfl) rfl <| ARun.qv (t_field_aptr rfl rfl) rfl <| t_store_aptr1 (g := Ping.av) (el' := (⟨v41.1, v40.Sent, v42.1, v43.1⟩ : Ping)) rfl rfl rfl rfl (idx_set_self (v := (⟨v41.1, v40.Sent, v42.1, v40.Back⟩ : Ping)) (idx_set_self (v := (⟨v41.1, v40.Sent, v40.Got, v40.Back⟩ : Ping)) e10)) rfl .p1 rfl <| ARun.ghost <| ImpX.eqs (s := 3) (av' := .sl 4 b8 0 (((l9.set v39.1.toNat (⟨v41.1, v40.Sent, v40.Got, v40.Back⟩ : Ping)).set v39.1.toNat (⟨v41.1, v40.Sent, v42.1, v40.Back⟩ : Ping)).set v39.1.toNat (⟨v41.1, v40.Sent, v42.1, v43.1⟩ : Ping)).length) rfl (by rw [List.length_set]) <| ImpX.here <| ARun.ghost <| ImpX.eqs (s := 53) (av' := .sl 4 b8 0 (((l9.set v39.1.toNat (⟨v41.1, v40.Sent, v40.Got, v40.Back⟩ : Ping)).set v39.1.toNat (⟨v41.1, v40.Sent, v42.1, v40.Back⟩ : Ping)).set v39.1.toNat (⟨v41.1, v40.Sent, v42.1, v43.1⟩ : Ping)).length) rfl (by rw [List.length_set]) <| ImpX.here <| ARun.ghost <| ImpX.eqs (s := 55) (av' := .sl 4 b8 0 (((l9.set v39.1.toNat (⟨v41.1, v40.Sent, v40.Got, v40.Back⟩ : Ping)).set v39.1.toNat (⟨v41.1, v40.Sent, v42.1, v40.Back⟩ : Ping)).set v39.1.toNat (⟨v41.1, v40.Sent, v42.1, v43.1⟩ : Ping)).length) rfl (by rw [List.length_set]) <| ImpX.here <| rN <| ATodo.stop <| ImpX.lq [0, 0] ⟨v43.2.L, v43.2.at_, ((l9.set v39.1.toNat (⟨v41.1, v40.Sent, v40.Got, v40.Back⟩ : Ping)).set v39.1.toNat (⟨v41.1, v40.Sent, v42.1, v40.Back⟩ : Ping)).set v39.1.toNat (⟨v41.1, v40.Sent, v42.1, v43.1⟩ : Ping), h, rfl⟩ rfl rfl
          · exact have h := iteFb hc h; tK <| ATodo.stop <| ImpX.lq [0, 0] ⟨l32, n33, l9, h, rfl⟩ rfl rfl
        · rintro σ' ⟨l36, n37, l38, h, rfl⟩
          unfold Stream_Pings_j2 at h
          refine tSR <| rM rfl rfl <| rA rfl rfl <| rN <| ATodo.ret <| ?_
          obtain rfl := Option.some.inj h
          exact ImpX.here ⟨_, .cons (.tmp _ _ rfl) .nil, _, .cons .p0 (.cons .p0 .nil), ⟨b8, rfl, rfl⟩⟩

set_option maxHeartbeats 4000000 in
theorem Stream_Time_c [GI : GTab] {b_0 : Bk} {p0x0 : Fleetmake_Stream} {r : Int × Fleetmake_Stream} (h : Stream_Time p0x0 = some r) : ACall Tryd.prog 40 [.ptr b_0 0] [(b_0, .cells [.list 1 (p0x0.L.map I), I p0x0.at_])] (T0 ([(b_0, .cells [.list 1 (r.2.L.map I), I r.2.at_])]) (I r.1)) := by
  unfold Stream_Time at h
  refine ACall.lessH ?_
  refine ACall.bodyN Tryd.func40 rfl Tryd.ntmps40 Tryd.results40 rfl rfl ?_
  refine tSR <| rA rfl rfl <| rN <| tSR <| rM rfl rfl <| rM rfl rfl <| bndE h fun v1 e1 h => t_call0 rfl (Stream_Next_c e1) (CoL.refl _) (.cons .p0 .nil) rfl rfl <| rM rfl rfl <| bndE h fun v2 e2 h => t_call0 rfl (Stream_Next_c e2) (CoL.refl _) (.cons .p0 .nil) rfl rfl <| rM rfl rfl <| n_buildSliceL (xs := ([(345686399999 : Int), (-1 : Int), (345686400000 : Int)]).map I) rfl rfl rfl rfl rfl rfl <| bndE h fun v3 e3 h => t_call0 rfl (Stream_Pick_c e3) (CoL.refl _) (.cons .p0 .nil) rfl rfl <| n_buildSliceL (xs := ([(0 : Int), (5 : Int), (20 : Int), (40 : Int), (60 : Int), (80 : Int), (120 : Int), v1.1, v2.1, v3.1]).map I) rfl rfl rfl rfl rfl rfl <| bndE h fun v4 e4 h => t_call0 rfl (Stream_Pick_c e4) (CoL.refl _) (.cons .p0 .nil) rfl rfl <| rA rfl rfl <| rN <| ATodo.ret <| ?_
  obtain rfl := Option.some.inj h
  exact ImpX.here ⟨_, .cons (.tmp _ _ rfl) .nil, _, .cons .p0 .nil, ⟨rfl, rfl⟩⟩

set_option maxHeartbeats 4000000 in
theorem base_Key_c [GI : GTab] {p0x0 : Str} {r : Bool} (h : base_Key p0x0 = some r) : Pu Tryd.prog 81 [.str p0x0] (.bool r) := by
  unfold base_Key at h
  refine ACall.bodyN Tryd.func81 rfl Tryd.ntmps81 Tryd.results81 rfl rfl ?_
  refine tSR <| rA rfl rfl <| rN <| tS <| tS <| ATodo.cut (fun σ' => ∃ (c1 : Bool), base_Key_j1 p0x0 c1 = some r ∧ σ' = ⟨54, [(0, .str p0x0), (21, .bool c1)], []⟩) ?_ ?_
  · refine tR <| rM rfl rfl <| ARun.qv (q_seq rfl rfl) rfl <| rM rfl rfl <| ARun.guard_df rfl rfl rfl (fun hc => ?_) (fun hc => ?_)
    · refine have h := iteF hc h; rM rfl rfl <| rY rfl rfl rfl <| ARun.qv (q_len_str rfl) rfl <| rY rfl rfl rfl <| ARun.qv (q_gtr rfl rfl) rfl <| rE rfl rfl rfl <| rM rfl rfl <| ARun.guard_df rfl rfl rfl (fun hc => ?_) (fun hc => ?_)
      · refine have h := iteF hc h; rM rfl rfl <| rY rfl rfl rfl <| bndE h fun c2 e1 h => ARun.qv (t_index_str rfl rfl e1) rfl <| rY rfl rfl rfl <| ARun.qv (q_lss rfl rfl) rfl <| rE rfl rfl rfl <| rM rfl rfl <| ARun.guard_df rfl rfl rfl (fun hc => ?_) (fun hc => ?_)
        · exact have h := iteF hc h; rM rfl rfl <| rY rfl rfl rfl <| bndE h fun c3 e2 h => ARun.qv (t_index_str rfl rfl e2) rfl <| rY rfl rfl rfl <| ARun.qv (q_gtr rfl rfl) rfl <| rE rfl rfl rfl <| rN <| ATodo.stop <| ImpX.lq [] ⟨decide ((122 : Int) < (c3.toNat : Int)), h, rfl⟩ rfl rfl
        · exact have h := iteT hc h; rG rfl rfl rfl rfl <| rG rfl rfl rfl rfl <| rT rfl rfl rfl <| rN <| ATodo.stop <| ImpX.lq [] ⟨true, h, rfl⟩ rfl rfl
      · exact have h := iteT hc h; rG rfl rfl rfl rfl <| rG rfl rfl rfl rfl <| rT rfl rfl rfl <| rM rfl rfl <| rG rfl rfl rfl rfl <| rG rfl rfl rfl rfl <| rG rfl rfl rfl rfl <| rT rfl rfl rfl <| rN <| ATodo.stop <| ImpX.lq [] ⟨true, h, rfl⟩ rfl rfl
    · exact have h := iteT hc h; rG rfl rfl rfl rfl <| rG rfl rfl rfl rfl <| rT rfl rfl rfl <| rM rfl rfl <| rG rfl rfl rfl rfl <| rG rfl rfl rfl rfl <| rG rfl rfl rfl rfl <| rT rfl rfl rfl <| rM rfl rfl <| rG rfl rfl rfl rfl <| rG rfl rfl rfl rfl <| rG rfl rfl rfl rfl <| rT rfl rfl rfl <| rN <| ATodo.stop <| ImpX.lq [] ⟨true, h, rfl⟩ rfl rfl
  · rintro σ' ⟨c1, h, rfl⟩
    unfold base_Key_j1 at h
    refine ATodo.cond rfl (fun hc => ?_) (fun hc => ?_)
    · refine have h := iteT hc h; tSR <| rA rfl rfl <| rN <| ATodo.ret <| ?_
      obtain rfl := Option.some.inj h
      exact ImpX.here ⟨_, .cons (.tmp _ _ rfl) .nil, rfl⟩
    · refine have h := iteFb hc h; tK <| tS <| tSR <| rM rfl rfl <| ARun.qv (q_len_str rfl) rfl <| rM rfl rfl <| rN <| ATodo.block <| ATodo.loopI (fun x : Int => base_Key_b1 p0x0 x) (fun x σ' => σ' = ⟨54, [(0, .str p0x0), (23, I (p0x0.length : Int)), (24, I x)], []⟩) h ?_ ?_
      · exact ImpX.lq [] rfl rfl rfl
      · intro n5 z1 σ' J1 hmk h hJ1 hA1
        obtain rfl := hmk
        replace h : base_Key_b1 p0x0 n5 = some z1 := h
        unfold base_Key_b1 at h
        refine tSR <| ARun.qv (q_lss rfl rfl) rfl <| rN <| tS <| ATodo.cond_d rfl (fun hc => ?_) (fun hc => ?_)
        · refine have h := iteT hc h; tK <| tS <| ATodo.block <| tSR <| rM rfl rfl <| rA rfl rfl <| rN <| tSR <| rM rfl rfl <| rM rfl rfl <| bndE h fun c6 e3 h => ARun.qv (t_index_str rfl rfl e3) rfl <| rA rfl rfl <| rN <| tS <| ATodo.cut (fun σ' => ∃ (c7 : Bool), base_Key_j2 n5 c7 = some z1 ∧ σ' = ⟨54, [(0, .str p0x0), (23, I (p0x0.length : Int)), (24, I n5), (52, .bool c7)], []⟩) ?_ ?_
          · refine tR <| rM rfl rfl <| ARun.qv (q_geq rfl rfl) rfl <| rM rfl rfl <| ARun.guard_dt rfl rfl rfl (fun hc => ?_) (fun hc => ?_)
            · rw [if_pos hc] at h
              refine rM rfl rfl <| rY rfl rfl rfl <| ARun.qv (q_leq rfl rfl) rfl <| rT rfl rfl rfl <| rM rfl rfl <| ARun.guard_df rfl rfl rfl (fun hc => ?_) (fun hc => ?_)
              · rw [if_neg hc] at h
                refine rM rfl rfl <| rY rfl rfl rfl <| ARun.qv (q_geq rfl rfl) rfl <| rY rfl rfl rfl <| rM rfl rfl <| ARun.guard_dt rfl rfl rfl (fun hc => ?_) (fun hc => ?_)
                · rw [if_pos hc] at h
                  refine rM rfl rfl <| rY rfl rfl rfl <| ARun.qv (q_leq rfl rfl) rfl <| rY rfl rfl rfl <| rT rfl rfl rfl <| rE rfl rfl rfl <| rM rfl rfl <| ARun.guard_df rfl rfl rfl (fun hc => ?_) (fun hc => ?_)
                  · rw [if_neg hc] at h
                    refine rM rfl rfl <| rY rfl rfl rfl <| ARun.qv (q_eql rfl rfl) rfl <| rE rfl rfl rfl <| rM rfl rfl <| ARun.guard_df rfl rfl rfl (fun hc => ?_) (fun hc => ?_)
                    · rw [if_neg hc] at h
                      exact rM rfl rfl <| rY rfl rfl rfl <| ARun.qv (q_eql rfl rfl) rfl <| rE rfl rfl rfl <| ARun.qv (q_not_d rfl) rfl <| rN <| ATodo.stop <| ImpX.lq [] ⟨decide (¬ ((c6.toNat : Int) = (95 : Int))), h, rfl⟩ rfl rfl
                    · rw [if_pos hc] at h
                      exact rG rfl rfl rfl rfl <| rT rfl rfl rfl <| ARun.qv (q_not rfl) rfl <| rN <| ATodo.stop <| ImpX.lq [] ⟨!true, h, rfl⟩ rfl rfl
                  · rw [if_pos hc] at h
                    exact rG rfl rfl rfl rfl <| rT rfl rfl rfl <| rM rfl rfl <| rG rfl rfl rfl rfl <| rG rfl rfl rfl rfl <| rT rfl rfl rfl <| ARun.qv (q_not rfl) rfl <| rN <| ATodo.stop <| ImpX.lq [] ⟨!true, h, rfl⟩ rfl rfl
                · rw [if_neg hc] at h
                  refine rG rfl rfl rfl rfl <| rY rfl rfl rfl <| rE rfl rfl rfl <| rE rfl rfl rfl <| rM rfl rfl <| rY rfl rfl rfl <| rM rfl rfl <| rY rfl rfl rfl <| ARun.qv (q_eql rfl rfl) rfl <| rE rfl rfl rfl <| rM rfl rfl <| ARun.guard_df rfl rfl rfl (fun hc => ?_) (fun hc => ?_)
                  · rw [if_neg hc] at h
                    exact rM rfl rfl <| rY rfl rfl rfl <| ARun.qv (q_eql rfl rfl) rfl <| rE rfl rfl rfl <| ARun.qv (q_not_d rfl) rfl <| rN <| ATodo.stop <| ImpX.lq [] ⟨decide (¬ ((c6.toNat : Int) = (95 : Int))), h, rfl⟩ rfl rfl
                  · rw [if_pos hc] at h
                    exact rG rfl rfl rfl rfl <| rT rfl rfl rfl <| ARun.qv (q_not rfl) rfl <| rN <| ATodo.stop <| ImpX.lq [] ⟨!true, h, rfl⟩ rfl rfl
              · rw [if_pos hc] at h
                exact rG rfl rfl rfl rfl <| rG rfl rfl rfl rfl <| ARun.guard_und rfl rfl rfl <| ARun.guard_und rfl rfl rfl <| rG rfl rfl rfl rfl <| rT rfl rfl rfl <| rM rfl rfl <| rG rfl rfl rfl rfl <| rG rfl rfl rfl rfl <| rT rfl rfl rfl <| rM rfl rfl <| rG rfl rfl rfl rfl <| rG rfl rfl rfl rfl <| rT rfl rfl rfl <| ARun.qv (q_not rfl) rfl <| rN <| ATodo.stop <| ImpX.lq [] ⟨!true, h, rfl⟩ rfl rfl
            · rw [if_neg hc] at h
              refine rG rfl rfl rfl rfl <| rE rfl rfl rfl <| rM rfl rfl <| rY rfl rfl rfl <| rM rfl rfl <| rY rfl rfl rfl <| ARun.qv (q_geq rfl rfl) rfl <| rY rfl rfl rfl <| rM rfl rfl <| ARun.guard_dt rfl rfl rfl (fun hc => ?_) (fun hc => ?_)
              · rw [if_pos hc] at h
                refine rM rfl rfl <| rY rfl rfl rfl <| ARun.qv (q_leq rfl rfl) rfl <| rY rfl rfl rfl <| rT rfl rfl rfl <| rE rfl rfl rfl <| rM rfl rfl <| ARun.guard_df rfl rfl rfl (fun hc => ?_) (fun hc => ?_)
                · rw [if_neg hc] at h
                  refine rM rfl rfl <| rY rfl rfl rfl <| ARun.qv (q_eql rfl rfl) rfl <| rE rfl rfl rfl <| rM rfl rfl <| ARun.guard_df rfl rfl rfl (fun hc => ?_) (fun hc => ?_)
                  · rw [if_neg hc] at h
                    exact rM rfl rfl <| rY rfl rfl rfl <| ARun.qv (q_eql rfl rfl) rfl <| rE rfl rfl rfl <| ARun.qv (q_not_d rfl) rfl <| rN <| ATodo.stop <| ImpX.lq [] ⟨decide (¬ ((c6.toNat : Int) = (95 : Int))), h, rfl⟩ rfl rfl
                  · rw [if_pos hc] at h
                    exact rG rfl rfl rfl rfl <| rT rfl rfl rfl <| ARun.qv (q_not rfl) rfl <| rN <| ATodo.stop <| ImpX.lq [] ⟨!true, h, rfl⟩ rfl rfl
                · rw [if_pos hc] at h
                  exact rG rfl rfl rfl rfl <| rT rfl rfl rfl <| rM rfl rfl <| rG rfl rfl rfl rfl <| rG rfl rfl rfl rfl <| rT rfl rfl rfl <| ARun.qv (q_not rfl) rfl <| rN <| ATodo.stop <| ImpX.lq [] ⟨!true, h, rfl⟩ rfl rfl
              · rw [if_neg hc] at h
                refine rG rfl rfl rfl rfl <| rY rfl rfl rfl <| rE rfl rfl rfl <| rE rfl rfl rfl <| rM rfl rfl <| rY rfl rfl rfl <| rM rfl rfl <| rY rfl rfl rfl <| ARun.qv (q_eql rfl rfl) rfl <| rE rfl rfl rfl <| rM rfl rfl <| ARun.guard_df rfl rfl rfl (fun hc => ?_) (fun hc => ?_)
                · rw [if_neg hc] at h
                  exact rM rfl rfl <| rY rfl rfl rfl <| ARun.qv (q_eql rfl rfl) rfl <| rE rfl rfl rfl <| ARun.qv (q_not_d rfl) rfl <| rN <| ATodo.stop <| ImpX.lq [] ⟨decide (¬ ((c6.toNat : Int) = (95 : Int))), h, rfl⟩ rfl rfl
                · rw [if_pos hc] at h
                  exact rG rfl rfl rfl rfl <| rT rfl rfl rfl <| ARun.qv (q_not rfl) rfl <| rN <| ATodo.stop <| ImpX.lq [] ⟨!true, h, rfl⟩ rfl rfl
          · rintro σ' ⟨c7, h, rfl⟩
            unfold base_Key_j2 at h
            refine ATodo.cond rfl (fun hc => ?_) (fun hc => ?_)
            · refine have h := iteT hc h; tSR <| rA rfl rfl <| rN <| ATodo.ret <| have h := outL h hA1; ?_
              obtain rfl := Option.some.inj h
              exact ImpX.here ⟨_, .cons (.tmp _ _ rfl) .nil, rfl⟩
            · refine have h := iteFb hc h; tK <| ATodo.blk <| tR <| ARun.qv (q_addw rfl rfl) rfl <| rM rfl rfl <| rN <| ATodo.stop <| ?_
              obtain rfl := Option.some.inj h
              exact hJ1 _ _ rfl <| ImpX.lq [] rfl rfl rfl
        · refine have h := iteF hc h; ATodo.exit rfl <| have h := outL h hA1; tSR <| rA rfl rfl <| rN <| ATodo.ret <| ?_
          obtain rfl := Option.some.inj h
          exact ImpX.here ⟨_, .cons (.tmp _ _ rfl) .nil, rfl⟩

set_option maxHeartbeats 4000000 in
theorem base_Out_c [GI : GTab] {p0x0 : Int} {p1x0 : Int} {p2x0 : Int} {r : Bool} (h : base_Out p0x0 p1x0 p2x0 = r) : Pu Tryd.prog 57 [I p0x0, I p1x0, I p2x0] (.bool r) := by
  unfold base_Out at h
  refine ACall.bodyN Tryd.func57 rfl Tryd.ntmps57 Tryd.results57 rfl rfl ?_
  refine tSR <| rA rfl rfl <| rN <| tS <| ATodo.cut (fun σ' => ∃ (c1 : Bool), base_Out_j1 c1 = r ∧ σ' = ⟨15, [(6, .bool c1)], []⟩) ?_ ?_
  · refine tR <| rM rfl rfl <| rM rfl rfl <| ARun.qv (q_lss rfl rfl) rfl <| rM rfl rfl <| ARun.guard_df rfl rfl rfl (fun hc => ?_) (fun hc => ?_)
    · rw [orFd hc] at h
      exact rM rfl rfl <| rY rfl rfl rfl <| rM rfl rfl <| rY rfl rfl rfl <| ARun.qv (q_gtr rfl rfl) rfl <| rE rfl rfl rfl <| rA rfl rfl <| rN <| ATodo.stop <| ImpX.lq [] ⟨decide (p2x0 < p0x0), h, rfl⟩ rfl rfl
    · rw [orTd hc] at h
      exact rG rfl rfl rfl rfl <| rG rfl rfl rfl rfl <| rT rfl rfl rfl <| rA rfl rfl <| rN <| ATodo.stop <| ImpX.lq [] ⟨true, h, rfl⟩ rfl rfl
  · rintro σ' ⟨c1, h, rfl⟩
    unfold base_Out_j1 at h
    refine ATodo.ret <| ?_
    obtain rfl := h
    exact ImpX.here ⟨_, .cons (.tmp _ _ rfl) .nil, rfl⟩

set_option maxHeartbeats 4000000 in
theorem base_Moment_c [GI : GTab] {p0x0 : Int} {r : Bool} (h : base_Moment p0x0 = r) : Pu Tryd.prog 86 [I p0x0] (.bool r) := by
  unfold base_Moment at h
  refine ACall.bodyN Tryd.func86 rfl Tryd.ntmps86 Tryd.results86 rfl rfl ?_
  refine tSR <| rA rfl rfl <| rN <| tSR <| rM rfl rfl <| r_callp rfl (base_Out_c rfl) (CoL.refl _) rfl <| ARun.qv (q_not rfl) rfl <| rA rfl rfl <| rN <| ATodo.ret <| ?_
  obtain rfl := h
  exact ImpX.here ⟨_, .cons (.tmp _ _ rfl) .nil, rfl⟩

set_option maxHeartbeats 4000000 in
theorem cmp_isNaN_int_c [GI : GTab] {p0x0 : Int} {r : Bool} (h : cmp_isNaN_int p0x0 = r) : Pu Tryd.prog 120 [I p0x0] (.bool r) := by
  unfold cmp_isNaN_int at h
  refine ACall.bodyN Tryd.func120 rfl Tryd.ntmps120 Tryd.results120 rfl rfl ?_
  refine tSR <| rA rfl rfl <| rN <| tSR <| rM rfl rfl <| rM rfl rfl <| ARun.qv (q_neq rfl rfl) rfl <| rA rfl rfl <| rN <| ATodo.ret <| ?_
  obtain rfl := h
  exact ImpX.here ⟨_, .cons (.tmp _ _ rfl) .nil, rfl⟩

set_option maxHeartbeats 4000000 in
theorem cmp_Compare_int_c [GI : GTab] {p0x0 : Int} {p1x0 : Int} {r : Int} (h : cmp_Compare_int p0x0 p1x0 = r) : Pu Tryd.prog 79 [I p0x0, I p1x0] (I r) := by
  unfold cmp_Compare_int at h
  refine ACall.bodyN Tryd.func79 rfl Tryd.ntmps79 Tryd.results79 rfl rfl ?_
  refine tSR <| rA rfl rfl <| rN <| tSR <| rM rfl rfl <| r_callp rfl (cmp_isNaN_int_c rfl) (CoL.refl _) rfl <| rA rfl rfl <| rN <| tSR <| rM rfl rfl <| r_callp rfl (cmp_isNaN_int_c rfl) (CoL.refl _) rfl <| rA rfl rfl <| rN <| tS <| tSR <| rM rfl rfl <| rN <| ATodo.cond rfl (fun hc => ?_) (fun hc => ?_)
  · refine have h := iteT hc h; tS <| tSR <| rM rfl rfl <| rN <| ATodo.cond rfl (fun hc => ?_) (fun hc => ?_)
    · refine have h := iteT hc h; tSR <| rA rfl rfl <| rN <| ATodo.ret <| ?_
      obtain rfl := h
      exact ImpX.here ⟨_, .cons (.tmp _ _ rfl) .nil, rfl⟩
    · refine have h := iteFb hc h; tK <| tSR <| rA rfl rfl <| rN <| ATodo.ret <| ?_
      obtain rfl := h
      exact ImpX.here ⟨_, .cons (.tmp _ _ rfl) .nil, rfl⟩
  · refine have h := iteFb hc h; tK <| tS <| tSR <| rM rfl rfl <| rN <| ATodo.cond rfl (fun hc => ?_) (fun hc => ?_)
    · refine have h := iteT hc h; tSR <| rA rfl rfl <| rN <| ATodo.ret <| ?_
      obtain rfl := h
      exact ImpX.here ⟨_, .cons (.tmp _ _ rfl) .nil, rfl⟩
    · refine have h := iteFb hc h; tK <| tS <| tSR <| rM rfl rfl <| rM rfl rfl <| ARun.qv (q_lss rfl rfl) rfl <| rN <| ATodo.cond_d rfl (fun hc => ?_) (fun hc => ?_)
      · refine have h := iteT hc h; tSR <| rA rfl rfl <| rN <| ATodo.ret <| ?_
        obtain rfl := h
        exact ImpX.here ⟨_, .cons (.tmp _ _ rfl) .nil, rfl⟩
      · refine have h := iteF hc h; tK <| tS <| tSR <| rM rfl rfl <| rM rfl rfl <| ARun.qv (q_gtr rfl rfl) rfl <| rN <| ATodo.cond_d rfl (fun hc => ?_) (fun hc => ?_)
        · refine have h := iteT hc h; tSR <| rA rfl rfl <| rN <| ATodo.ret <| ?_
          obtain rfl := h
          exact ImpX.here ⟨_, .cons (.tmp _ _ rfl) .nil, rfl⟩
        · refine have h := iteF hc h; tK <| tSR <| rA rfl rfl <| rN <| ATodo.ret <| ?_
          obtain rfl := h
          exact ImpX.here ⟨_, .cons (.tmp _ _ rfl) .nil, rfl⟩

set_option maxHeartbeats 4000000 in
theorem cmp_Or_int_c [GI : GTab] {p0x0 : List Int} {r : Int} (h : cmp_Or_int p0x0 = some r) : Pu Tryd.prog 78 [.list 1 (p0x0.map I)] (I r) := by
  unfold cmp_Or_int at h
  refine ACall.bodyN Tryd.func78 rfl Tryd.ntmps78 Tryd.results78 rfl rfl ?_
  refine tSR <| rA rfl rfl <| rN <| tSR <| rA rfl rfl <| rN <| tS <| tSR <| rM rfl rfl <| ARun.qv (t_len rfl) rfl <| rM rfl rfl <| rN <| ATodo.block <| ATodo.loopI (fun x : Int => cmp_Or_int_b1 p0x0 x) (fun x σ' => σ' = ⟨18, [(3, I (0 : Int)), (6, .list 1 (p0x0.map I)), (7, I (p0x0.length : Int)), (8, I x)], []⟩) h ?_ ?_
  · exact ImpX.lq [] rfl rfl rfl
  · intro n2 z1 σ' J1 hmk h hJ1 hA1
    obtain rfl := hmk
    replace h : cmp_Or_int_b1 p0x0 n2 = some z1 := h
    unfold cmp_Or_int_b1 at h
    refine tSR <| ARun.qv (q_lss rfl rfl) rfl <| rN <| tS <| ATodo.cond_d rfl (fun hc => ?_) (fun hc => ?_)
    · refine have h := iteT hc h; tK <| tS <| ATodo.block <| tSR <| bndE h fun v3 e1 h => ARun.qv (t_index rfl rfl rfl e1 rfl rfl) rfl <| ARun.qv (q_load_rptr rfl rfl rfl) rfl <| rA rfl rfl <| rN <| tSR <| rM rfl rfl <| rM rfl rfl <| ARun.qv (q_neq rfl rfl) rfl <| rN <| ATodo.cond_d rfl (fun hc => ?_) (fun hc => ?_)
      · refine have h := iteT hc h; tSR <| rM rfl rfl <| rA rfl rfl <| rN <| ATodo.ret <| have h := outL h hA1; ?_
        obtain rfl := Option.some.inj h
        exact ImpX.here ⟨_, .cons (.tmp _ _ rfl) .nil, rfl⟩
      · refine have h := iteF hc h; tK <| ATodo.blk <| tR <| ARun.qv (q_addw rfl rfl) rfl <| rM rfl rfl <| rN <| ATodo.stop <| ?_
        obtain rfl := Option.some.inj h
        exact hJ1 _ _ rfl <| ImpX.lq [] rfl rfl rfl
    · refine have h := iteF hc h; ATodo.exit rfl <| have h := outL h hA1; tSR <| rM rfl rfl <| rA rfl rfl <| rN <| ATodo.ret <| ?_
      obtain rfl := Option.some.inj h
      exact ImpX.here ⟨_, .cons (.tmp _ _ rfl) .nil, rfl⟩

set_option maxHeartbeats 4000000 in
theorem hub_byPing_c [GI : GTab] {p0x0 : Ping} {p1x0 : Ping} {r : Int} (h : hub_byPing p0x0 p1x0 = some r) : Pu Tryd.prog 91 [.agg [.str p0x0.Hub, I p0x0.Sent, I p0x0.Got, I p0x0.Back], .agg [.str p1x0.Hub, I p1x0.Sent, I p1x0.Got, I p1x0.Back]] (I r) := by
  unfold hub_byPing at h
  refine ACall.bodyN Tryd.func91 rfl Tryd.ntmps91 Tryd.results91 rfl rfl ?_
  refine tSR <| n_box rfl rfl rfl rfl fun b1 => n_box rfl rfl rfl rfl fun b2 => rA rfl rfl <| rN <| tS <| ATodo.regionM (id := 1) (A := [0, 1, 0, 4, 15, 0, 32, 0, 128, 511, 0, 1024, 0, 4096, 16383, 0, 32768, 0, 131072, 524287, 1048575, 2097151, 4194303]) 23 mixed rfl (by kernel_rfl) (by kernel_rfl) <| AM.qv (n_field_ptr rfl rfl) rfl <| AM.qv (q_load_ptr rfl rfl .p1 rfl) rfl <| AM.qv (n_field_ptr rfl rfl) rfl <| AM.qv (q_load_ptr rfl rfl .p0 rfl) rfl <| AM.callp rfl (strings_Compare_c rfl) (CoL.refl _) rfl <| AM.qv (n_field_ptr rfl rfl) rfl <| AM.qv (q_load_ptr rfl rfl .p1 rfl) rfl <| AM.qv (n_field_ptr rfl rfl) rfl <| AM.qv (q_load_ptr rfl rfl .p0 rfl) rfl <| AM.callp rfl (cmp_Compare_int_c rfl) (CoL.refl _) rfl <| AM.qv (n_field_ptr rfl rfl) rfl <| AM.qv (q_load_ptr rfl rfl .p1 rfl) rfl <| AM.qv (n_field_ptr rfl rfl) rfl <| AM.qv (q_load_ptr rfl rfl .p0 rfl) rfl <| AM.callp rfl (cmp_Compare_int_c rfl) (CoL.refl _) rfl <| AM.qv (n_field_ptr rfl rfl) rfl <| AM.qv (q_load_ptr rfl rfl .p1 rfl) rfl <| AM.qv (n_field_ptr rfl rfl) rfl <| AM.qv (q_load_ptr rfl rfl .p0 rfl) rfl <| AM.callp rfl (cmp_Compare_int_c rfl) (CoL.refl _) rfl <| AM.buildSliceL (xs := ([(Lib.compareBytes p0x0.Hub p1x0.Hub), (cmp_Compare_int p0x0.Sent p1x0.Sent), (cmp_Compare_int p0x0.Got p1x0.Got), (cmp_Compare_int p0x0.Back p1x0.Back)] : List Int).map I) rfl rfl rfl rfl rfl rfl <| bndE h fun v3 e1 h => AM.callp rfl (cmp_Or_int_c e1) (CoL.refl _) rfl <| AM.qv (q_assign rfl) rfl <| AM.nil <| rN <| ATodo.ret <| ?_
  obtain rfl := Option.some.inj h
  exact ImpX.here ⟨_, .cons (.tmp _ _ rfl) .nil, rfl⟩

set_option maxHeartbeats 4000000 in
theorem hub_CheckPings_c [GI : GTab] {p0x0 : List Ping} {r : Int} (h : hub_CheckPings p0x0 = some r) : Pu Tryd.prog 46 [.list 4 (p0x0.map Ping.av)] (I r) := by
  unfold hub_CheckPings at h
  refine ACall.bodyN Tryd.func46 rfl Tryd.ntmps46 Tryd.results46 rfl rfl ?_
  refine tSR <| rA rfl rfl <| rN <| tS <| tSR <| rM rfl rfl <| ARun.qv (t_len rfl) rfl <| ARun.qv (q_gtr rfl rfl) rfl <| rN <| ATodo.cond_d rfl (fun hc => ?_) (fun hc => ?_)
  · refine have h := iteT hc h; tSR <| rA rfl rfl <| rN <| ATodo.ret <| ?_
    obtain rfl := Option.some.inj h
    exact ImpX.here ⟨_, .cons (.tmp _ _ rfl) .nil, rfl⟩
  · refine have h := iteF hc h; tK <| tS <| tSR <| rM rfl rfl <| ARun.qv (t_len rfl) rfl <| rM rfl rfl <| rN <| ATodo.block <| ATodo.loopI (fun x : Int => hub_CheckPings_b1 p0x0 x) (fun x σ' => σ' = ⟨58, [(0, .list 4 (p0x0.map Ping.av)), (8, .list 4 (p0x0.map Ping.av)), (9, I (p0x0.length : Int)), (10, I x)], []⟩) h ?_ ?_
    · exact ImpX.lq [] rfl rfl rfl
    · intro n2 z1 σ' J1 hmk h hJ1 hA1
      obtain rfl := hmk
      replace h : hub_CheckPings_b1 p0x0 n2 = some z1 := h
      unfold hub_CheckPings_b1 at h
      refine tSR <| ARun.qv (q_lss rfl rfl) rfl <| rN <| tS <| ATodo.cond_d rfl (fun hc => ?_) (fun hc => ?_)
      · refine have h := iteT hc h; tK <| tS <| ATodo.block <| tSR <| rM rfl rfl <| bndE h fun v3 e1 h => ARun.qv (t_index rfl rfl rfl e1 rfl rfl) rfl <| ARun.qv (q_load_rptr_agg rfl rfl rfl) rfl <| n_alloc rfl rfl rfl rfl fun b4 => rA rfl rfl <| n_store_ptr rfl rfl rfl rfl .p0 rfl rfl <| rN <| ATodo.block <| tSR <| rF rfl rfl rfl <| rL rfl rfl .p0 rfl rfl <| bndE h fun v5 e2 h => r_callp rfl (base_Key_c e2) (CoL.refl _) rfl <| ARun.qv (q_not rfl) rfl <| rA rfl rfl <| rN <| ATodo.cond rfl (fun hc => ?_) (fun hc => ?_)
        · refine have h := iteT hc h; tSR <| rA rfl rfl <| rN <| ATodo.ret <| have h := outL h hA1; ?_
          obtain rfl := Option.some.inj h
          exact ImpX.here ⟨_, .cons (.tmp _ _ rfl) .nil, rfl⟩
        · refine have h := iteFb hc h; tS <| ATodo.cut (fun σ' => ∃ (c6 : Bool), hub_CheckPings_j1 p0x0 n2 v3 c6 = some z1 ∧ σ' = ⟨58, [(0, .list 4 (p0x0.map Ping.av)), (3, I n2), (4, .ptr b4 0), (8, .list 4 (p0x0.map Ping.av)), (9, I (p0x0.length : Int)), (10, I n2), (20, .bool c6)], [(b4, .cells [.str v3.Hub, I v3.Sent, I v3.Got, I v3.Back])]⟩) ?_ ?_
          · refine tR <| rF rfl rfl rfl <| rL rfl rfl .p0 rfl rfl <| r_callp rfl (base_Moment_c rfl) (CoL.refl _) rfl <| ARun.qv (q_not rfl) rfl <| rM rfl rfl <| ARun.guard rfl rfl rfl (fun hc => ?_) (fun hc => ?_)
            · rw [orFb hc] at h
              refine rF rfl rfl rfl <| rY rfl rfl rfl <| rL rfl rfl .p0 rfl rfl <| rY rfl rfl rfl <| r_callp rfl (base_Moment_c rfl) (CoL.refl _) rfl <| rY rfl rfl rfl <| ARun.qv (q_not rfl) rfl <| rE rfl rfl rfl <| rM rfl rfl <| ARun.guard rfl rfl rfl (fun hc => ?_) (fun hc => ?_)
              · rw [orFb hc] at h
                refine rF rfl rfl rfl <| rY rfl rfl rfl <| rL rfl rfl .p0 rfl rfl <| rY rfl rfl rfl <| r_callp rfl (base_Moment_c rfl) (CoL.refl _) rfl <| rY rfl rfl rfl <| ARun.qv (q_not rfl) rfl <| rE rfl rfl rfl <| rM rfl rfl <| ARun.guard rfl rfl rfl (fun hc => ?_) (fun hc => ?_)
                · rw [orFb hc] at h
                  exact rF rfl rfl rfl <| rY rfl rfl rfl <| rL rfl rfl .p0 rfl rfl <| rY rfl rfl rfl <| rF rfl rfl rfl <| rY rfl rfl rfl <| rL rfl rfl .p0 rfl rfl <| rY rfl rfl rfl <| ARun.qv (q_lss rfl rfl) rfl <| rE rfl rfl rfl <| rA rfl rfl <| rN <| ATodo.stop <| ImpX.lq [0] ⟨decide (v3.Back < v3.Sent), h, rfl⟩ rfl rfl
                · rw [orTb hc] at h
                  exact rG rfl rfl rfl rfl <| rG rfl rfl rfl rfl <| rG rfl rfl rfl rfl <| rG rfl rfl rfl rfl <| rT rfl rfl rfl <| rA rfl rfl <| rN <| ATodo.stop <| ImpX.lq [0] ⟨true, h, rfl⟩ rfl rfl
              · rw [orTb hc] at h
                exact rG rfl rfl rfl rfl <| rG rfl rfl rfl rfl <| rG rfl rfl rfl rfl <| rT rfl rfl rfl <| rM rfl rfl <| rG rfl rfl rfl rfl <| rG rfl rfl rfl rfl <| rG rfl rfl rfl rfl <| rG rfl rfl rfl rfl <| rG rfl rfl rfl rfl <| rT rfl rfl rfl <| rA rfl rfl <| rN <| ATodo.stop <| ImpX.lq [0] ⟨true, h, rfl⟩ rfl rfl
            · rw [orTb hc] at h
              exact rG rfl rfl rfl rfl <| rG rfl rfl rfl rfl <| rG rfl rfl rfl rfl <| rT rfl rfl rfl <| rM rfl rfl <| rG rfl rfl rfl rfl <| rG rfl rfl rfl rfl <| rG rfl rfl rfl rfl <| rG rfl rfl rfl rfl <| rT rfl rfl rfl <| rM rfl rfl <| rG rfl rfl rfl rfl <| rG rfl rfl rfl rfl <| rG rfl rfl rfl rfl <| rG rfl rfl rfl rfl <| rG rfl rfl rfl rfl <| rT rfl rfl rfl <| rA rfl rfl <| rN <| ATodo.stop <| ImpX.lq [0] ⟨true, h, rfl⟩ rfl rfl
          · rintro σ' ⟨c6, h, rfl⟩
            unfold hub_CheckPings_j1 at h
            refine ATodo.cond rfl (fun hc => ?_) (fun hc => ?_)
            · refine have h := iteT hc h; tSR <| rA rfl rfl <| rN <| ATodo.ret <| have h := outL h hA1; ?_
              obtain rfl := Option.some.inj h
              exact ImpX.here ⟨_, .cons (.tmp _ _ rfl) .nil, rfl⟩
            · refine have h := iteFb hc h; tS <| ATodo.cut (fun σ' => ∃ (c7 : Bool), hub_CheckPings_j2 n2 c7 = some z1 ∧ σ' = ⟨58, [(0, .list 4 (p0x0.map Ping.av)), (8, .list 4 (p0x0.map Ping.av)), (9, I (p0x0.length : Int)), (10, I n2), (44, .bool c7)], []⟩) ?_ ?_
              · refine ATodo.regionM (id := 10) (A := [0, 1, 3, 7, 7, 7, 39, 119, 247, 511, 1023, 2047, 4095]) 13 mixed rfl (by kernel_rfl) (by kernel_rfl) <| AM.qv (q_move rfl) rfl <| AM.qv (q_gtr rfl rfl) rfl <| AM.qv (q_move rfl) rfl <| AM.guard_dt rfl rfl rfl (fun hc => ?_) (fun hc => ?_)
                · exact have h := iteT hc h; AM.qv (q_load_ptr_all rfl rfl .p0 rfl) rfl <| AM.guard_yes rfl rfl rfl <| AM.qv (q_move rfl) rfl <| AM.guard_yes rfl rfl rfl <| AM.qv (q_move rfl) rfl <| AM.guard_yes rfl rfl rfl <| AM.qv (q_subw rfl rfl) rfl <| AM.guard_yes rfl rfl rfl <| bndE h fun v8 e3 h => AM.qv (t_index rfl rfl rfl e3 rfl rfl) rfl <| AM.guard_yes rfl rfl rfl <| AM.qv (q_load_rptr_agg rfl rfl rfl) rfl <| AM.guard_yes rfl rfl rfl <| bndE h fun v9 e4 h => AM.callp rfl (hub_byPing_c e4) (CoL.refl _) rfl <| AM.guard_yes rfl rfl rfl <| AM.qv (q_leq rfl rfl) rfl <| AM.qv (q_pick_t rfl rfl) rfl <| AM.qv (q_assign rfl) rfl <| AM.nil <| rN <| ATodo.stop <| ImpX.lq [] ⟨decide (v9 ≤ (0 : Int)), h, rfl⟩ rfl rfl
                · exact have h := iteF hc h; AM.guard_no rfl rfl rfl rfl <| AM.guard_no rfl rfl rfl rfl <| AM.guard_no rfl rfl rfl rfl <| AM.guard_no rfl rfl rfl rfl <| AM.guard_no rfl rfl rfl rfl <| AM.guard_no rfl rfl rfl rfl <| AM.guard_no rfl rfl rfl rfl <| AM.qv (q_pick_f rfl rfl) rfl <| AM.qv (q_assign rfl) rfl <| AM.nil <| rN <| ATodo.stop <| ImpX.lq [] ⟨false, h, rfl⟩ rfl rfl
              · rintro σ' ⟨c7, h, rfl⟩
                unfold hub_CheckPings_j2 at h
                refine ATodo.cond rfl (fun hc => ?_) (fun hc => ?_)
                · refine have h := iteT hc h; tSR <| rA rfl rfl <| rN <| ATodo.ret <| have h := outL h hA1; ?_
                  obtain rfl := Option.some.inj h
                  exact ImpX.here ⟨_, .cons (.tmp _ _ rfl) .nil, rfl⟩
                · refine have h := iteFb hc h; tK <| ATodo.blk <| ATodo.blk <| tR <| ARun.qv (q_addw rfl rfl) rfl <| rM rfl rfl <| rN <| ATodo.stop <| ?_
                  obtain rfl := Option.some.inj h
                  exact hJ1 _ _ rfl <| ImpX.lq [] rfl rfl rfl
      · refine have h := iteF hc h; ATodo.exit rfl <| have h := outL h hA1; tSR <| rA rfl rfl <| rN <| ATodo.ret <| ?_
        obtain rfl := Option.some.inj h
        exact ImpX.here ⟨_, .cons (.tmp _ _ rfl) .nil, rfl⟩

set_option maxHeartbeats 4000000 in
theorem hub_hubFault_c [GI : GTab] {p0x0 : List Ping} {p1x0 : Str} {r : Int} (h : hub_hubFault p0x0 p1x0 = some r) : Pu Tryd.prog 84 [.list 4 (p0x0.map Ping.av), .str p1x0] (I r) := by
  unfold hub_hubFault at h
  refine ACall.bodyN Tryd.func84 rfl Tryd.ntmps84 Tryd.results84 rfl rfl ?_
  refine tSR <| rA rfl rfl <| rN <| tS <| tSR <| rM rfl rfl <| bndE h fun v1 e1 h => r_callp rfl (hub_CheckPings_c e1) (CoL.refl _) rfl <| rA rfl rfl <| rN <| tSR <| rM rfl rfl <| ARun.qv (q_neq rfl rfl) rfl <| rN <| ATodo.cond_d rfl (fun hc => ?_) (fun hc => ?_)
  · refine have h := iteT hc h; tSR <| rM rfl rfl <| rA rfl rfl <| rN <| ATodo.ret <| ?_
    obtain rfl := Option.some.inj h
    exact ImpX.here ⟨_, .cons (.tmp _ _ rfl) .nil, rfl⟩
  · refine have h := iteF hc h; tK <| tS <| tSR <| rM rfl rfl <| bndE h fun v2 e2 h => r_callp rfl (base_Key_c e2) (CoL.refl _) rfl <| ARun.qv (q_not rfl) rfl <| rN <| ATodo.cond rfl (fun hc => ?_) (fun hc => ?_)
    · refine have h := iteT hc h; tSR <| rA rfl rfl <| rN <| ATodo.ret <| ?_
      obtain rfl := Option.some.inj h
      exact ImpX.here ⟨_, .cons (.tmp _ _ rfl) .nil, rfl⟩
    · refine have h := iteFb hc h; tK <| tSR <| rA rfl rfl <| rN <| ATodo.ret <| ?_
      obtain rfl := Option.some.inj h
      exact ImpX.here ⟨_, .cons (.tmp _ _ rfl) .nil, rfl⟩

set_option maxHeartbeats 4000000 in
theorem hub_offset_1x_c [GI : GTab] {p0x0 : Hub_edge} {p1x0 : Hub_edge} {r : Int} (h : hub_offset_1x p0x0 p1x0 = r) : Pu Tryd.prog 124 [.agg [I p0x0.at_, I p0x0.by_], .agg [I p1x0.at_, I p1x0.by_]] (I r) := by
  unfold hub_offset_1x at h
  refine ACall.bodyN Tryd.func124 rfl Tryd.ntmps124 Tryd.results124 rfl rfl ?_
  refine tSR <| n_box rfl rfl rfl rfl fun b1 => n_box rfl rfl rfl rfl fun b2 => rA rfl rfl <| rN <| tSR <| rF rfl rfl rfl <| rL rfl rfl .p1 rfl rfl <| rF rfl rfl rfl <| rL rfl rfl .p0 rfl rfl <| r_callp rfl (cmp_Compare_int_c rfl) (CoL.refl _) rfl <| rA rfl rfl <| rN <| ATodo.ret <| ?_
  obtain rfl := h
  exact ImpX.here ⟨_, .cons (.tmp _ _ rfl) .nil, rfl⟩

set_option maxHeartbeats 4000000 in
theorem slices_SortFunc_hub_edge_hub_edge_k : SortK Tryd.prog 123 2 := ⟨fun enc hk h1 cf hO g cb blk off cap d w eg hc hH hb hs => AnyQ.slices_SortFunc_eq Tryd.sortF123 2 Tryd.isAgg151 Tryd.sizeOf151 enc hk h1 cf hO g cb blk off cap d w eg hc hH hb hs, fun p cap fv w => AnyF.slices_SortFunc_none Tryd.sortF123 p cap fv w⟩
theorem slices_SortFunc_hub_edge_hub_edge_c [GI : GTab] {b_0 : Bk} {p0x0 : List Hub_edge} {fnb : Hub_edge → Hub_edge → Option Int} {fnb_F : FuncId} [IsFn Tryd.prog fnb_F] {fnb_C : List AV} (fnb_h : ∀ {y0 y1 : _} {u : Int}, fnb y0 y1 = some u → @Pu strongT Tryd.prog fnb_F (Hub_edge.av y0 :: Hub_edge.av y1 :: fnb_C) (I u)) {r : (List Hub_edge)} (h : slices_SortFunc_hub_edge_hub_edge p0x0 fnb = some r) : ACall Tryd.prog 123 [.sl 2 b_0 0 p0x0.length, .func (.func fnb_F) fnb_C] [(b_0, .arr 2 (p0x0.map Hub_edge.av))] (T0 [(b_0, .arr 2 (r.map Hub_edge.av))] (.tup [])) :=
  sort_acall (fn := fnb) slices_SortFunc_hub_edge_hub_edge_k rfl @fnb_h (fun _ => rfl) h

set_option maxHeartbeats 4000000 in
theorem hub_offset_c [GI : GTab] {p0x0 : List Ping} {p1x0 : Str} {r : Offset × Bool} (h : hub_offset p0x0 p1x0 = some r) : Pu Tryd.prog 85 [.list 4 (p0x0.map Ping.av), .str p1x0] (.tup [.agg [I r.1.Low, I r.1.High, I r.1.Many], .bool r.2]) := by
  unfold hub_offset at h
  refine ACall.bodyN Tryd.func85 rfl Tryd.ntmps85 Tryd.results85 rfl rfl ?_
  refine tSR <| n_alloc rfl rfl rfl rfl fun b1 => rA rfl rfl <| rN <| tSR <| rA rfl rfl <| rN <| tS <| tSR <| rM rfl rfl <| ARun.qv (t_len rfl) rfl <| rM rfl rfl <| rN <| ATodo.block <| ATodo.loopI (fun x : (List Hub_edge) × Int => hub_offset_b1 p0x0 p1x0 x.1 x.2) (fun x σ' => ∃ (b5 : Bk), σ' = ⟨111, [(1, .str p1x0), (4, .ptr b1 0), (6, .sl 2 b5 0 x.1.length), (14, .list 4 (p0x0.map Ping.av)), (15, I (p0x0.length : Int)), (16, I x.2)], [(b1, .cells [I (0 : Int), I (0 : Int), I (0 : Int)]), (b5, .arr 2 (x.1.map Hub_edge.av))]⟩) h ?_ ?_
  · exact ImpX.arr (s := 6) 2 rfl fun b8 => ImpX.lq [1, 0] ⟨b8, rfl⟩ rfl rfl
  · intro x z1 σ' J1 hmk h hJ1 hA1
    obtain ⟨l6, n7⟩ := x
    obtain ⟨b5, rfl⟩ := hmk
    replace h : hub_offset_b1 p0x0 p1x0 l6 n7 = some z1 := h
    unfold hub_offset_b1 at h
    refine tSR <| ARun.qv (q_lss rfl rfl) rfl <| rN <| tS <| ATodo.cond_d rfl (fun hc => ?_) (fun hc => ?_)
    · refine have h := iteT hc h; tK <| tS <| ATodo.block <| tSR <| bndE h fun v9 e1 h => ARun.qv (t_index rfl rfl rfl e1 rfl rfl) rfl <| ARun.qv (q_load_rptr_agg rfl rfl rfl) rfl <| n_alloc rfl rfl rfl rfl fun b10 => n_store_ptr rfl rfl rfl rfl .p0 rfl rfl <| rN <| tSR <| rF rfl rfl rfl <| rL rfl rfl .p0 rfl rfl <| rM rfl rfl <| ARun.qv (q_seq rfl rfl) rfl <| rN <| ATodo.cut (fun σ' => ∃ (b11 : Bk) (l12 : List Hub_edge), hub_offset_j1 n7 l12 = some z1 ∧ σ' = ⟨111, [(1, .str p1x0), (4, .ptr b1 0), (6, .sl 2 b11 0 l12.length), (14, .list 4 (p0x0.map Ping.av)), (15, I (p0x0.length : Int)), (16, I n7)], [(b1, .cells [I (0 : Int), I (0 : Int), I (0 : Int)]), (b11, .arr 2 (l12.map Hub_edge.av))]⟩) ?_ ?_
      · refine ATodo.cond_d rfl (fun hc => ?_) (fun hc => ?_)
        · exact have h := iteT hc h; tR <| rM rfl rfl <| rF rfl rfl rfl <| rL rfl rfl .p0 rfl rfl <| rF rfl rfl rfl <| rL rfl rfl .p0 rfl rfl <| ARun.qv (q_subw rfl rfl) rfl <| ARun.qv (n_build rfl rfl rfl rfl rfl) rfl <| rF rfl rfl rfl <| rL rfl rfl .p0 rfl rfl <| rF rfl rfl rfl <| rL rfl rfl .p0 rfl rfl <| ARun.qv (q_subw rfl rfl) rfl <| ARun.qv (q_addw rfl rfl) rfl <| ARun.qv (n_build rfl rfl rfl rfl rfl) rfl <| n_buildSliceL (xs := ([(⟨w64 (v9.Got - v9.Back), (1 : Int)⟩ : Hub_edge), (⟨w64 ((w64 (v9.Got - v9.Sent)) + (1 : Int)), (-1 : Int)⟩ : Hub_edge)]).map Hub_edge.av) rfl rfl rfl rfl rfl rfl <| bndE h fun l13 e2 h => t_append (g := Hub_edge.av) rfl rfl rfl rfl rfl rfl rfl rfl (.list _) e2 (fun _ => .p2) rfl fun b14 => rA rfl rfl <| rN <| ATodo.stop <| ImpX.lq [1, 1] ⟨b14, l13, h, rfl⟩ rfl rfl
        · exact have h := iteF hc h; tK <| ATodo.stop <| ImpX.lq [1, 1] ⟨b5, l6, h, rfl⟩ rfl rfl
      · rintro σ' ⟨b11, l12, h, rfl⟩
        unfold hub_offset_j1 at h
        refine ATodo.blk <| tR <| ARun.qv (q_addw rfl rfl) rfl <| rM rfl rfl <| rN <| ATodo.stop <| ?_
        obtain rfl := Option.some.inj h
        exact hJ1 _ _ rfl <| ImpX.lq [0, 0] ⟨b11, rfl⟩ rfl rfl
    · refine have h := iteF hc h; ATodo.exit rfl <| have h := outL h hA1; ?_
      unfold hub_offset_k8 at h
      refine tSR <| rM rfl rfl <| bndE h fun v15 e3 h => t_call0 rfl (slices_SortFunc_hub_edge_hub_edge_c (fun e => hub_offset_1x_c (GI := strongT) (Option.some.inj e)) (lenOk_f e3)) (CoL.refl _) (.cons .p1 .nil) rfl rfl <| ARun.ghost <| ImpX.eqs (s := 6) (av' := .sl 2 b5 0 v15.length) rfl (congrArg (AV.sl 2 b5 0) (lenOk_l e3)) <| ImpX.here <| ARun.ghost <| ImpX.eqs (s := 41) (av' := .sl 2 b5 0 v15.length) rfl (congrArg (AV.sl 2 b5 0) (lenOk_l e3)) <| ImpX.here <| rN <| tSR <| n_alloc rfl rfl rfl rfl fun b16 => rN <| tSR <| rA rfl rfl <| rN <| tS <| tSR <| rA rfl rfl <| rN <| ATodo.cut (fun σ' => ∃ (n17 : Int) (n18 : Int) (n19 : Int), hub_offset_j2 n17 n18 n19 = some r ∧ σ' = ⟨111, [(4, .ptr b1 0), (9, .ptr b16 0)], [(b1, .cells [I (0 : Int), I (0 : Int), I (0 : Int)]), (b16, .cells [I n17, I n18, I n19])]⟩) ?_ ?_
      · refine ATodo.block <| ATodo.loopI (fun x : Int × Int × Int × Int × Int => hub_offset_b2 v15 x.1 x.2.1 x.2.2.1 x.2.2.2.1 x.2.2.2.2) (fun x σ' => σ' = ⟨111, [(4, .ptr b1 0), (6, .sl 2 b5 0 v15.length), (9, .ptr b16 0), (10, I x.2.2.2.1), (11, I x.2.2.2.2)], [(b1, .cells [I (0 : Int), I (0 : Int), I (0 : Int)]), (b5, .arr 2 (v15.map Hub_edge.av)), (b16, .cells [I x.1, I x.2.1, I x.2.2.1])]⟩) h ?_ ?_
        · exact ImpX.lq [2, 1, 0] rfl rfl rfl
        · intro x z2 σ' J2 hmk h hJ2 hA2
          obtain ⟨n25, n26, n27, n28, n29⟩ := x
          obtain rfl := hmk
          replace h : hub_offset_b2 v15 n25 n26 n27 n28 n29 = some z2 := h
          unfold hub_offset_b2 at h
          refine tS <| tSR <| rM rfl rfl <| rM rfl rfl <| ARun.qv (t_len_sl rfl) rfl <| ARun.qv (q_lss rfl rfl) rfl <| rN <| ATodo.cond_d rfl (fun hc => ?_) (fun hc => ?_)
          · refine have h := iteT hc h; tK <| ATodo.block <| tSR <| rM rfl rfl <| rM rfl rfl <| bndE h fun v30 e4 h => ARun.qv (t_index_sl rfl rfl rfl e4) rfl <| ARun.qv (t_field_aptr rfl rfl) rfl <| ARun.qv (t_load_aptr (g := Hub_edge.av) rfl rfl (.inl .p1) e4 rfl) rfl <| rA rfl rfl <| rN <| tS <| ATodo.block <| ATodo.loopI (fun x : Int × Int => hub_offset_b3 v15 n25 n26 n27 v30 x.1 x.2) (fun x σ' => σ' = ⟨111, [(4, .ptr b1 0), (6, .sl 2 b5 0 v15.length), (9, .ptr b16 0), (10, I x.1), (11, I x.2), (12, I v30.at_)], [(b1, .cells [I (0 : Int), I (0 : Int), I (0 : Int)]), (b5, .arr 2 (v15.map Hub_edge.av)), (b16, .cells [I n25, I n26, I n27])]⟩) h ?_ ?_
            · exact ImpX.lq [0, 0, 0] rfl rfl rfl
            · intro x z3 σ' J3 hmk h hJ3 hA3
              obtain ⟨n33, n34⟩ := x
              obtain rfl := hmk
              replace h : hub_offset_b3 v15 n25 n26 n27 v30 n33 n34 = some z3 := h
              unfold hub_offset_b3 at h
              refine tS <| tS <| ATodo.cut (fun σ' => ∃ (c35 : Bool), hub_offset_j3 v15 n25 n26 n27 v30 n33 n34 c35 = some z3 ∧ σ' = ⟨111, [(4, .ptr b1 0), (6, .sl 2 b5 0 v15.length), (9, .ptr b16 0), (10, I n33), (11, I n34), (12, I v30.at_), (64, .bool c35)], [(b1, .cells [I (0 : Int), I (0 : Int), I (0 : Int)]), (b5, .arr 2 (v15.map Hub_edge.av)), (b16, .cells [I n25, I n26, I n27])]⟩) ?_ ?_
              · refine tR <| rM rfl rfl <| rM rfl rfl <| ARun.qv (t_len_sl rfl) rfl <| ARun.qv (q_lss rfl rfl) rfl <| rM rfl rfl <| ARun.guard_dt rfl rfl rfl (fun hc => ?_) (fun hc => ?_)
                · exact have h := iteT hc h; rM rfl rfl <| rY rfl rfl rfl <| rM rfl rfl <| rY rfl rfl rfl <| bndE h fun v36 e5 h => ARun.qv (t_index_sl rfl rfl rfl e5) rfl <| rY rfl rfl rfl <| ARun.qv (t_field_aptr rfl rfl) rfl <| rY rfl rfl rfl <| ARun.qv (t_load_aptr (g := Hub_edge.av) rfl rfl (.inl .p1) e5 rfl) rfl <| rY rfl rfl rfl <| rM rfl rfl <| rY rfl rfl rfl <| ARun.qv (q_eql rfl rfl) rfl <| rT rfl rfl rfl <| rN <| ATodo.stop <| ImpX.lq [0, 0, 0] ⟨decide (v36.at_ = v30.at_), h, rfl⟩ rfl rfl
                · exact have h := iteF hc h; rG rfl rfl rfl rfl <| rG rfl rfl rfl rfl <| rG rfl rfl rfl rfl <| rG rfl rfl rfl rfl <| rG rfl rfl rfl rfl <| rG rfl rfl rfl rfl <| rE rfl rfl rfl <| rN <| ATodo.stop <| ImpX.lq [0, 0, 0] ⟨false, h, rfl⟩ rfl rfl
              · rintro σ' ⟨c35, h, rfl⟩
                unfold hub_offset_j3 at h
                refine ATodo.cond rfl (fun hc => ?_) (fun hc => ?_)
                · refine have h := iteT hc h; tK <| tS <| ATodo.block <| tR <| rM rfl rfl <| rM rfl rfl <| rM rfl rfl <| bndE h fun v37 e6 h => ARun.qv (t_index_sl rfl rfl rfl e6) rfl <| ARun.qv (t_field_aptr rfl rfl) rfl <| ARun.qv (t_load_aptr (g := Hub_edge.av) rfl rfl (.inl .p1) e6 rfl) rfl <| ARun.qv (q_addw rfl rfl) rfl <| rA rfl rfl <| rN <| ATodo.blk <| tR <| rM rfl rfl <| ARun.qv (q_addw rfl rfl) rfl <| rA rfl rfl <| rN <| ATodo.stop <| ?_
                  obtain rfl := Option.some.inj h
                  exact hJ3 _ _ rfl <| ImpX.lq [0, 0, 0] rfl rfl rfl
                · refine have h := iteFb hc h; ATodo.exit rfl <| have h := outL h hA3; ?_
                  unfold hub_offset_k7 at h
                  refine tS <| tSR <| rM rfl rfl <| rM rfl rfl <| ARun.qv (t_len_sl rfl) rfl <| ARun.qv (q_eql rfl rfl) rfl <| rN <| ATodo.cond_d rfl (fun hc => ?_) (fun hc => ?_)
                  · exact have h := iteT hc h; ATodo.exit rfl <| have h := outL h hA2; ATodo.stop <| ImpX.lq [0, 1] ⟨n25, n26, n27, h, rfl⟩ rfl rfl
                  · refine have h := iteF hc h; tK <| tSR <| rM rfl rfl <| rM rfl rfl <| bndE h fun v38 e7 h => ARun.qv (t_index_sl rfl rfl rfl e7) rfl <| ARun.qv (t_field_aptr rfl rfl) rfl <| ARun.qv (t_load_aptr (g := Hub_edge.av) rfl rfl (.inl .p1) e7 rfl) rfl <| ARun.qv (q_subw rfl rfl) rfl <| rA rfl rfl <| rN <| ATodo.block <| tSR <| rM rfl rfl <| rF rfl rfl rfl <| rL rfl rfl .p2 rfl rfl <| ARun.qv (q_gtr rfl rfl) rfl <| rA rfl rfl <| rN <| ATodo.cut (fun σ' => ∃ (n39 : Int) (n40 : Int) (n41 : Int), hub_offset_j4 n33 n34 n39 n40 n41 = some z2 ∧ σ' = ⟨111, [(4, .ptr b1 0), (6, .sl 2 b5 0 v15.length), (9, .ptr b16 0), (10, I n33), (11, I n34)], [(b1, .cells [I (0 : Int), I (0 : Int), I (0 : Int)]), (b5, .arr 2 (v15.map Hub_edge.av)), (b16, .cells [I n39, I n40, I n41])]⟩) ?_ ?_
                    · refine ATodo.cond_d rfl (fun hc => ?_) (fun hc => ?_)
                      · exact have h := iteT hc h; tR <| rM rfl rfl <| rM rfl rfl <| rM rfl rfl <| ARun.qv (n_build rfl rfl rfl rfl rfl) rfl <| n_store_ptr rfl rfl rfl rfl .p2 rfl rfl <| rN <| ATodo.stop <| ImpX.lq [0, 0, 0] ⟨v30.at_, w64 (v38.at_ - (1 : Int)), n33, h, rfl⟩ rfl rfl
                      · refine have h := iteF hc h; tS <| ATodo.cut (fun σ' => ∃ (c42 : Bool), hub_offset_j5 n25 n26 n27 n33 n34 v38 c42 = some z2 ∧ σ' = ⟨111, [(4, .ptr b1 0), (6, .sl 2 b5 0 v15.length), (9, .ptr b16 0), (10, I n33), (11, I n34), (13, I (w64 (v38.at_ - (1 : Int)))), (93, .bool c42)], [(b1, .cells [I (0 : Int), I (0 : Int), I (0 : Int)]), (b5, .arr 2 (v15.map Hub_edge.av)), (b16, .cells [I n25, I n26, I n27])]⟩) ?_ ?_
                        · refine tR <| rM rfl rfl <| rF rfl rfl rfl <| rL rfl rfl .p2 rfl rfl <| ARun.qv (q_eql rfl rfl) rfl <| rM rfl rfl <| ARun.guard_dt rfl rfl rfl (fun hc => ?_) (fun hc => ?_)
                          · rw [andTd hc] at h
                            exact rF rfl rfl rfl <| rY rfl rfl rfl <| rL rfl rfl .p2 rfl rfl <| rY rfl rfl rfl <| rM rfl rfl <| rY rfl rfl rfl <| ARun.qv (q_subw rfl rfl) rfl <| rY rfl rfl rfl <| ARun.qv (q_eql rfl rfl) rfl <| rT rfl rfl rfl <| rA rfl rfl <| rN <| ATodo.stop <| ImpX.lq [0, 0, 0] ⟨decide (n26 = (w64 (v30.at_ - (1 : Int)))), h, rfl⟩ rfl rfl
                          · rw [andFd hc] at h
                            exact rG rfl rfl rfl rfl <| rG rfl rfl rfl rfl <| rG rfl rfl rfl rfl <| rG rfl rfl rfl rfl <| rE rfl rfl rfl <| rA rfl rfl <| rN <| ATodo.stop <| ImpX.lq [0, 0, 0] ⟨false, h, rfl⟩ rfl rfl
                        · rintro σ' ⟨c42, h, rfl⟩
                          unfold hub_offset_j5 at h
                          refine ATodo.cut (fun σ' => ∃ (n43 : Int), hub_offset_j6 n25 n27 n33 n34 n43 = some z2 ∧ σ' = ⟨111, [(4, .ptr b1 0), (6, .sl 2 b5 0 v15.length), (9, .ptr b16 0), (10, I n33), (11, I n34)], [(b1, .cells [I (0 : Int), I (0 : Int), I (0 : Int)]), (b5, .arr 2 (v15.map Hub_edge.av)), (b16, .cells [I n25, I n43, I n27])]⟩) ?_ ?_
                          · refine ATodo.cond rfl (fun hc => ?_) (fun hc => ?_)
                            · exact have h := iteT hc h; tR <| rM rfl rfl <| rF rfl rfl rfl <| n_store_ptr rfl rfl rfl rfl .p2 rfl rfl <| rN <| ATodo.stop <| ImpX.lq [0, 0, 0] ⟨w64 (v38.at_ - (1 : Int)), h, rfl⟩ rfl rfl
                            · exact have h := iteFb hc h; tK <| ATodo.stop <| ImpX.lq [0, 0, 0] ⟨n26, h, rfl⟩ rfl rfl
                          · rintro σ' ⟨n43, h, rfl⟩
                            unfold hub_offset_j6 at h
                            exact ATodo.stop <| ImpX.lq [0, 0, 0] ⟨n25, n43, n27, h, rfl⟩ rfl rfl
                    · rintro σ' ⟨n39, n40, n41, h, rfl⟩
                      unfold hub_offset_j4 at h
                      refine ATodo.blk <| ATodo.blk <| ATodo.stop <| ?_
                      obtain rfl := Option.some.inj h
                      exact hJ2 _ _ rfl <| ImpX.lq [0, 0, 0] rfl rfl rfl
          · exact have h := iteF hc h; ATodo.exit rfl <| have h := outL h hA2; ATodo.stop <| ImpX.lq [0, 1] ⟨n25, n26, n27, h, rfl⟩ rfl rfl
      · rintro σ' ⟨n17, n18, n19, h, rfl⟩
        unfold hub_offset_j2 at h
        refine tS <| ATodo.regionT (id := 23) (A := [0, 0, 2, 6, 1, 31]) (H0 := [(b1, .cells [I (0 : Int), I (0 : Int), I (0 : Int)])]) (HH := fun β => [(b1, .cells [I n17, I n18, I n19]), (b16, .cells [I n17, I n18, I n19])]) 5 mixed rfl (by kernel_rfl) (by kernel_rfl) [⟨none, some 4, [], fun _ => (b1, .cells [I (0 : Int), I (0 : Int), I (0 : Int)]), none⟩, ⟨some 4, none, [], fun _ => (b1, .cells [I n17, I n18, I n19]), none⟩] [] rfl (by kernel_rfl) rfl (.cons .p0 .nil) (fun _ => rfl) <| AT.am 4 rfl rfl <| AM.qv (q_load_ptr_all rfl rfl .p0 rfl) rfl <| AM.qv (n_field_ptr rfl rfl) rfl <| AM.qv (q_load_ptr rfl rfl .p0 rfl) rfl <| AM.qv (q_gtr rfl rfl) rfl <| AM.nil <| AT.run0 (Ti := [(b1, .cells [I (0 : Int), I (0 : Int), I (0 : Int)])]) (Pi := [(b1, .cells [I n17, I n18, I n19])]) (fun _ => rfl) (fun _ => rfl) (fun _ => rfl) rfl rfl ?_ ?_
        · exact n_store_ptr rfl rfl rfl rfl .p0 rfl rfl <| ARun.nil ⟨_, rfl⟩
        refine AT.nilN (fun _ => rfl) fun β => rA rfl rfl <| rN <| ATodo.ret <| ?_
        obtain rfl := Option.some.inj h
        exact ImpX.here ⟨_, .cons (.all _ _ _ _ _ _ rfl .p0 TUnder.h TInfo.h rfl rfl) (.cons (.tmp _ _ rfl) .nil), rfl⟩

set_option maxHeartbeats 4000000 in
theorem hub_Offset_c [GI : GTab] {p0x0 : List Ping} {p1x0 : Str} {r : Offset × Bool × Int} (h : hub_Offset p0x0 p1x0 = some r) : Pu Tryd.prog 41 [.list 4 (p0x0.map Ping.av), .str p1x0] (.tup [.agg [I r.1.Low, I r.1.High, I r.1.Many], .bool r.2.1, I r.2.2]) := by
  unfold hub_Offset at h
  refine ACall.bodyN Tryd.func41 rfl Tryd.ntmps41 Tryd.results41 rfl rfl ?_
  refine tSR <| n_alloc rfl rfl rfl rfl fun b1 => rA rfl rfl <| rA rfl rfl <| rN <| tS <| tSR <| rM rfl rfl <| rM rfl rfl <| bndE h fun v2 e1 h => r_callp rfl (hub_hubFault_c e1) (CoL.refl _) rfl <| rA rfl rfl <| rN <| tSR <| rM rfl rfl <| ARun.qv (q_neq rfl rfl) rfl <| rN <| ATodo.cond_d rfl (fun hc => ?_) (fun hc => ?_)
  · refine have h := iteT hc h; tSR <| ARun.qv (n_build rfl rfl rfl rfl rfl) rfl <| rM rfl rfl <| n_store_ptr rfl rfl rfl rfl .p0 rfl rfl <| rA rfl rfl <| rA rfl rfl <| rN <| ATodo.ret <| ?_
    obtain rfl := Option.some.inj h
    exact ImpX.here ⟨_, .cons (.all _ _ _ _ _ _ rfl .p0 TUnder.h TInfo.h rfl rfl) (.cons (.tmp _ _ rfl) (.cons (.tmp _ _ rfl) .nil)), rfl⟩
  · refine have h := iteF hc h; tK <| tSR <| rM rfl rfl <| rM rfl rfl <| bndE h fun v3 e2 h => r_callp rfl (hub_offset_c e2) (CoL.refl _) rfl <| rM rfl rfl <| rX rfl rfl rfl <| rX rfl rfl rfl <| n_alloc rfl rfl rfl rfl fun b4 => n_store_ptr rfl rfl rfl rfl .p0 rfl rfl <| rA rfl rfl <| rN <| tSR <| ARun.qv (q_load_ptr_all rfl rfl .p0 rfl) rfl <| rM rfl rfl <| n_store_ptr rfl rfl rfl rfl .p1 rfl rfl <| rA rfl rfl <| rA rfl rfl <| rN <| ATodo.ret <| ?_
    obtain rfl := Option.some.inj h
    exact ImpX.here ⟨_, .cons (.all _ _ _ _ _ _ rfl .p1 TUnder.h TInfo.h rfl rfl) (.cons (.tmp _ _ rfl) (.cons (.tmp _ _ rfl) .nil)), rfl⟩

set_option maxHeartbeats 4000000 in
theorem hub_newClocks_c [GI : GTab] {p0x0 : List Ping} {r : Hub_clocks} (h : hub_newClocks p0x0 = r) : ACall Tryd.prog 87 [.list 4 (p0x0.map Ping.av)] [] (T2 (fun d_0 d_0x1 => [(d_0, .cells [.list 4 (r.pings_.map Ping.av), .mref d_0x1]), (d_0x1, .mp (r.ahead_.map (fun e => (AV.str e.1, I e.2))))]) (fun d_0 d_0x1 => .ptr d_0 0)) := by
  unfold hub_newClocks at h
  refine ACall.lessH ?_
  refine ACall.bodyN Tryd.func87 rfl Tryd.ntmps87 Tryd.results87 rfl rfl ?_
  refine tSR <| rA rfl rfl <| rN <| tSR <| rM rfl rfl <| t_makeMap rfl fun b1 => ARun.qv (n_build rfl rfl rfl rfl rfl) rfl <| n_box rfl rfl rfl rfl fun b2 => rA rfl rfl <| rN <| ATodo.ret <| ?_
  obtain rfl := h
  exact ImpX.here ⟨_, .cons (.tmp _ _ rfl) .nil, _, .cons .p0 (.cons .p0 .nil), ⟨b2, b1, rfl, rfl⟩⟩

set_option maxHeartbeats 4000000 in
theorem base_Down_c [GI : GTab] {p0x0 : Int} {p1x0 : Int} {r : Int} (h : base_Down p0x0 p1x0 = some r) : Pu Tryd.prog 125 [I p0x0, I p1x0] (I r) := by
  unfold base_Down at h
  refine ACall.bodyN Tryd.func125 rfl Tryd.ntmps125 Tryd.results125 rfl rfl ?_
  refine tSR <| rA rfl rfl <| rN <| tSR <| rM rfl rfl <| rM rfl rfl <| bndE h fun n1 e1 h => ARun.qv (t_quoS rfl rfl e1) rfl <| rA rfl rfl <| rN <| tS <| tSR <| rM rfl rfl <| rM rfl rfl <| bndE h fun n2 e2 h => ARun.qv (t_remS rfl rfl e2) rfl <| ARun.qv (q_lss rfl rfl) rfl <| rN <| ATodo.cut (fun σ' => ∃ (n3 : Int), base_Down_j1 n3 = some r ∧ σ' = ⟨16, [(5, I n3)], []⟩) ?_ ?_
  · refine ATodo.cond_d rfl (fun hc => ?_) (fun hc => ?_)
    · exact have h := iteT hc h; tR <| rM rfl rfl <| ARun.qv (q_subw rfl rfl) rfl <| rA rfl rfl <| rN <| ATodo.stop <| ImpX.lq [] ⟨w64 (n1 - (1 : Int)), h, rfl⟩ rfl rfl
    · exact have h := iteF hc h; tK <| ATodo.stop <| ImpX.lq [] ⟨n1, h, rfl⟩ rfl rfl
  · rintro σ' ⟨n3, h, rfl⟩
    unfold base_Down_j1 at h
    refine tSR <| rM rfl rfl <| rA rfl rfl <| rN <| ATodo.ret <| ?_
    obtain rfl := Option.some.inj h
    exact ImpX.here ⟨_, .cons (.tmp _ _ rfl) .nil, rfl⟩

set_option maxHeartbeats 4000000 in
theorem hub_clocks_repair_c [GI : GTab] {b_0 : Bk} {b_0x1 : Bk} {p0x0 : Hub_clocks} {p1x0 : Str} {p2x0 : Int} {r : Int × Hub_clocks} (h : hub_clocks_repair p0x0 p1x0 p2x0 = some r) : ACall Tryd.prog 88 [.ptr b_0 0, .str p1x0, I p2x0] [(b_0, .cells [.list 4 (p0x0.pings_.map Ping.av), .mref b_0x1]), (b_0x1, .mp (p0x0.ahead_.map (fun e => (AV.str e.1, I e.2))))] (T1 (fun c_0x1 => [(b_0, .cells [.list 4 (r.2.pings_.map Ping.av), .mref c_0x1]), (c_0x1, .mp (r.2.ahead_.map (fun e => (AV.str e.1, I e.2))))]) (fun c_0x1 => I r.1)) := by
  unfold hub_clocks_repair at h
  refine ACall.lessH ?_
  refine ACall.bodyN Tryd.func88 rfl Tryd.ntmps88 Tryd.results88 rfl rfl ?_
  refine tSR <| rA rfl rfl <| rN <| tSR <| rM rfl rfl <| ARun.qv (q_nilCheck_ptr rfl) rfl <| rF rfl rfl rfl <| rL rfl rfl .p0 rfl rfl <| rM rfl rfl <| bndE h fun v1 e1 h => ARun.qv (t_lookup2 (gk := AV.str) (gv := I) (M := p0x0.ahead_) (key := p1x0) (Z := (0 : Int)) rfl rfl .p1 rfl rfl rfl e1 rfl) rfl <| rM rfl rfl <| rX rfl rfl rfl <| rX rfl rfl rfl <| rA rfl rfl <| rA rfl rfl <| rN <| tS <| tSR <| rM rfl rfl <| ARun.qv (q_not rfl) rfl <| rN <| ATodo.cut (fun σ' => ∃ (l2 : List (Str × Int)) (n3 : Int), hub_clocks_repair_j1 p0x0 p2x0 l2 n3 = some r ∧ σ' = ⟨48, [(2, I p2x0), (7, I n3)], [(b_0, .cells [.list 4 (p0x0.pings_.map Ping.av), .mref b_0x1]), (b_0x1, .mp (l2.map (fun e => (AV.str e.1, I e.2))))]⟩) ?_ ?_
  · refine ATodo.cond rfl (fun hc => ?_) (fun hc => ?_)
    · exact have h := iteT hc h; tSR <| rM rfl rfl <| ARun.qv (q_nilCheck_ptr rfl) rfl <| rF rfl rfl rfl <| rL rfl rfl .p0 rfl rfl <| rM rfl rfl <| bndE h fun v4 e2 h => r_callp rfl (hub_offset_c e2) (CoL.refl _) rfl <| rM rfl rfl <| rX rfl rfl rfl <| rX rfl rfl rfl <| n_alloc rfl rfl rfl rfl fun b5 => n_store_ptr rfl rfl rfl rfl .p0 rfl rfl <| rA rfl rfl <| rN <| tSR <| rF rfl rfl rfl <| rL rfl rfl .p0 rfl rfl <| rF rfl rfl rfl <| rL rfl rfl .p0 rfl rfl <| ARun.qv (q_addw rfl rfl) rfl <| bndE h fun v6 e3 h => r_callp rfl (base_Down_c e3) (CoL.refl _) rfl <| rA rfl rfl <| rN <| tR <| rM rfl rfl <| ARun.qv (q_nilCheck_ptr rfl) rfl <| rF rfl rfl rfl <| rL rfl rfl .p1 rfl rfl <| rM rfl rfl <| rM rfl rfl <| t_mapUpdate (gk := AV.str) (gv := I) (M := p0x0.ahead_) (key := p1x0) (v := v6) rfl rfl rfl rfl .p2 <| rN <| ATodo.stop <| ImpX.lq [1, 1] ⟨mset p0x0.ahead_ p1x0 v6, v6, h, rfl⟩ rfl rfl
    · exact have h := iteFb hc h; tK <| ATodo.stop <| ImpX.lq [0, 0] ⟨p0x0.ahead_, v1.1, h, rfl⟩ rfl rfl
  · rintro σ' ⟨l2, n3, h, rfl⟩
    unfold hub_clocks_repair_j1 at h
    refine tSR <| rM rfl rfl <| rM rfl rfl <| ARun.qv (q_subw rfl rfl) rfl <| ARun.qv (q_max rfl rfl) rfl <| ARun.qv (q_min rfl rfl) rfl <| rA rfl rfl <| rN <| ATodo.ret <| ?_
    obtain rfl := Option.some.inj h
    exact ImpX.here ⟨_, .cons (.tmp _ _ rfl) .nil, _, .cons .p0 (.cons .p0 .nil), ⟨b_0x1, rfl, rfl⟩⟩

set_option maxHeartbeats 4000000 in
theorem hub_Repair_c [GI : GTab] {p0x0 : List Ping} {p1x0 : Str} {p2x0 : Int} {r : Int × Int} (h : hub_Repair p0x0 p1x0 p2x0 = some r) : Pu Tryd.prog 42 [.list 4 (p0x0.map Ping.av), .str p1x0, I p2x0] (.tup [I r.1, I r.2]) := by
  unfold hub_Repair at h
  refine ACall.bodyN Tryd.func42 rfl Tryd.ntmps42 Tryd.results42 rfl rfl ?_
  refine tSR <| rA rfl rfl <| rA rfl rfl <| rN <| tS <| tSR <| rM rfl rfl <| rM rfl rfl <| bndE h fun v1 e1 h => r_callp rfl (hub_hubFault_c e1) (CoL.refl _) rfl <| rA rfl rfl <| rN <| tSR <| rM rfl rfl <| ARun.qv (q_neq rfl rfl) rfl <| rN <| ATodo.cond_d rfl (fun hc => ?_) (fun hc => ?_)
  · refine have h := iteT hc h; tSR <| rM rfl rfl <| rA rfl rfl <| rA rfl rfl <| rN <| ATodo.ret <| ?_
    obtain rfl := Option.some.inj h
    exact ImpX.here ⟨_, .cons (.tmp _ _ rfl) (.cons (.tmp _ _ rfl) .nil), rfl⟩
  · refine have h := iteF hc h; tK <| tS <| tSR <| rM rfl rfl <| r_callp rfl (base_Moment_c rfl) (CoL.refl _) rfl <| ARun.qv (q_not rfl) rfl <| rN <| ATodo.cond rfl (fun hc => ?_) (fun hc => ?_)
    · refine have h := iteT hc h; tSR <| rA rfl rfl <| rA rfl rfl <| rN <| ATodo.ret <| ?_
      obtain rfl := Option.some.inj h
      exact ImpX.here ⟨_, .cons (.tmp _ _ rfl) (.cons (.tmp _ _ rfl) .nil), rfl⟩
    · refine have h := iteFb hc h; tK <| tSR <| rM rfl rfl <| t_call2 rfl (hub_newClocks_c rfl) (CoL.refl _) .nil (fun _ _ => rfl) rfl fun b2 b3 => rM rfl rfl <| rM rfl rfl <| bndE h fun v4 e2 h => t_call1 rfl (hub_clocks_repair_c e2) (CoL.refl _) (.cons .p0 (.cons .p0 .nil)) (fun _ => rfl) rfl fun b5 => rA rfl rfl <| rA rfl rfl <| rN <| ATodo.ret <| ?_
      obtain rfl := Option.some.inj h
      exact ImpX.here ⟨_, .cons (.tmp _ _ rfl) (.cons (.tmp _ _ rfl) .nil), rfl⟩

set_option maxHeartbeats 4000000 in
theorem Q_in_c [GI : GTab] {p0x0 : Int} {p1x0 : Int} {p2x0 : Int} {r : Bool} (h : Q_in p0x0 p1x0 p2x0 = r) : Pu Tryd.prog 96 [I p0x0, I p1x0, I p2x0] (.bool r) := by
  unfold Q_in at h
  refine ACall.bodyN Tryd.func96 rfl Tryd.ntmps96 Tryd.results96 rfl rfl ?_
  refine tSR <| rA rfl rfl <| rN <| tS <| ATodo.cut (fun σ' => ∃ (c1 : Bool), Q_in_j1 c1 = r ∧ σ' = ⟨15, [(6, .bool c1)], []⟩) ?_ ?_
  · refine tR <| rM rfl rfl <| rM rfl rfl <| ARun.qv (q_leq rfl rfl) rfl <| rM rfl rfl <| ARun.guard_dt rfl rfl rfl (fun hc => ?_) (fun hc => ?_)
    · rw [andTd hc] at h
      exact rM rfl rfl <| rY rfl rfl rfl <| rM rfl rfl <| rY rfl rfl rfl <| ARun.qv (q_leq rfl rfl) rfl <| rT rfl rfl rfl <| rA rfl rfl <| rN <| ATodo.stop <| ImpX.lq [] ⟨decide (p0x0 ≤ p2x0), h, rfl⟩ rfl rfl
    · rw [andFd hc] at h
      exact rG rfl rfl rfl rfl <| rG rfl rfl rfl rfl <| rE rfl rfl rfl <| rA rfl rfl <| rN <| ATodo.stop <| ImpX.lq [] ⟨false, h, rfl⟩ rfl rfl
  · rintro σ' ⟨c1, h, rfl⟩
    unfold Q_in_j1 at h
    refine ATodo.ret <| ?_
    obtain rfl := h
    exact ImpX.here ⟨_, .cons (.tmp _ _ rfl) .nil, rfl⟩

set_option maxHeartbeats 4000000 in
theorem Q_Key_c {p0x0 : Str} {r : Bool} (h : Q_Key p0x0 = some r) : Pu Tryd.prog 89 [.str p0x0] (.bool r) := by
  unfold Q_Key at h
  refine ACall.bodyN Tryd.func89 rfl Tryd.ntmps89 Tryd.results89 rfl rfl ?_
  refine tSR <| rA rfl rfl <| rN <| tS <| ATodo.cut (fun σ' => ∃ (c1 : Bool), Q_Key_j1 c1 = some r ∧ σ' = ⟨17, [(2, .bool c1)], []⟩) ?_ ?_
  · refine tR <| rM rfl rfl <| ARun.qv (q_len_str rfl) rfl <| r_callp rfl (Q_in_c rfl) (CoL.refl _) rfl <| rM rfl rfl <| ARun.guard rfl rfl rfl (fun hc => ?_) (fun hc => ?_)
    · refine have h := iteT hc h; rM rfl rfl <| rY rfl rfl rfl <| bndE h fun v2 e1 h => r_callp rfl (strings_Trim_c e1) (CoL.refl _) rfl <| rY rfl rfl rfl <| ARun.qv (q_seq rfl rfl) rfl <| rT rfl rfl rfl <| rM rfl rfl <| ARun.guard_dt rfl rfl rfl (fun hc => ?_) (fun hc => ?_)
      · exact have h := iteT hc h; rM rfl rfl <| rY rfl rfl rfl <| bndE h fun c3 e2 h => ARun.qv (t_index_str rfl rfl e2) rfl <| rY rfl rfl rfl <| r_callp rfl (strings_IndexByte_c rfl) (CoL.refl _) rfl <| rY rfl rfl rfl <| ARun.qv (q_geq rfl rfl) rfl <| rT rfl rfl rfl <| rA rfl rfl <| rN <| ATodo.stop <| ImpX.lq [] ⟨decide ((0 : Int) ≤ (indexByteI ([97, 98, 99, 100, 101, 102, 103, 104, 105, 106, 107, 108, 109, 110, 111, 112, 113, 114, 115, 116, 117, 118, 119, 120, 121, 122] : Str) (c3.toNat : Int))), h, rfl⟩ rfl rfl
      · exact have h := iteF hc h; rG rfl rfl rfl rfl <| rG rfl rfl rfl rfl <| rG rfl rfl rfl rfl <| rE rfl rfl rfl <| rA rfl rfl <| rN <| ATodo.stop <| ImpX.lq [] ⟨false, h, rfl⟩ rfl rfl
    · exact have h := iteFb hc h; rG rfl rfl rfl rfl <| rG rfl rfl rfl rfl <| rE rfl rfl rfl <| rM rfl rfl <| rG rfl rfl rfl rfl <| rG rfl rfl rfl rfl <| rG rfl rfl rfl rfl <| rG rfl rfl rfl rfl <| rE rfl rfl rfl <| rA rfl rfl <| rN <| ATodo.stop <| ImpX.lq [] ⟨false, h, rfl⟩ rfl rfl
  · rintro σ' ⟨c1, h, rfl⟩
    unfold Q_Key_j1 at h
    refine ATodo.ret <| ?_
    obtain rfl := Option.some.inj h
    exact ImpX.here ⟨_, .cons (.tmp _ _ rfl) .nil, rfl⟩

set_option maxHeartbeats 4000000 in
theorem Q_MomentFault_c [GI : GTab] {p0x0 : Int} {r : Int} (h : Q_MomentFault p0x0 = r) : Pu Tryd.prog 48 [I p0x0] (I r) := by
  unfold Q_MomentFault at h
  refine ACall.bodyN Tryd.func48 rfl Tryd.ntmps48 Tryd.results48 rfl rfl ?_
  refine tSR <| rA rfl rfl <| rN <| tS <| tSR <| rM rfl rfl <| r_callp rfl (Q_in_c rfl) (CoL.refl _) rfl <| ARun.qv (q_not rfl) rfl <| rN <| ATodo.cond rfl (fun hc => ?_) (fun hc => ?_)
  · refine have h := iteT hc h; tSR <| rA rfl rfl <| rN <| ATodo.ret <| ?_
    obtain rfl := h
    exact ImpX.here ⟨_, .cons (.tmp _ _ rfl) .nil, rfl⟩
  · refine have h := iteFb hc h; tK <| tSR <| rA rfl rfl <| rN <| ATodo.ret <| ?_
    obtain rfl := h
    exact ImpX.here ⟨_, .cons (.tmp _ _ rfl) .nil, rfl⟩

set_option maxHeartbeats 4000000 in
theorem Q_pingOrder_c [GI : GTab] {p0x0 : Ping} {p1x0 : Ping} {r : Int} (h : Q_pingOrder p0x0 p1x0 = some r) : Pu Tryd.prog 90 [.agg [.str p0x0.Hub, I p0x0.Sent, I p0x0.Got, I p0x0.Back], .agg [.str p1x0.Hub, I p1x0.Sent, I p1x0.Got, I p1x0.Back]] (I r) := by
  unfold Q_pingOrder at h
  refine ACall.bodyN Tryd.func90 rfl Tryd.ntmps90 Tryd.results90 rfl rfl ?_
  refine tSR <| n_box rfl rfl rfl rfl fun b1 => n_box rfl rfl rfl rfl fun b2 => rA rfl rfl <| rN <| tS <| ATodo.regionM (id := 1) (A := [0, 1, 0, 4, 15, 0, 32, 0, 128, 511, 0, 1024, 0, 4096, 16383, 0, 32768, 0, 131072, 524287, 1048575, 2097151, 4194303]) 23 mixed rfl (by kernel_rfl) (by kernel_rfl) <| AM.qv (n_field_ptr rfl rfl) rfl <| AM.qv (q_load_ptr rfl rfl .p1 rfl) rfl <| AM.qv (n_field_ptr rfl rfl) rfl <| AM.qv (q_load_ptr rfl rfl .p0 rfl) rfl <| AM.callp rfl (strings_Compare_c rfl) (CoL.refl _) rfl <| AM.qv (n_field_ptr rfl rfl) rfl <| AM.qv (q_load_ptr rfl rfl .p1 rfl) rfl <| AM.qv (n_field_ptr rfl rfl) rfl <| AM.qv (q_load_ptr rfl rfl .p0 rfl) rfl <| AM.callp rfl (cmp_Compare_int_c rfl) (CoL.refl _) rfl <| AM.qv (n_field_ptr rfl rfl) rfl <| AM.qv (q_load_ptr rfl rfl .p1 rfl) rfl <| AM.qv (n_field_ptr rfl rfl) rfl <| AM.qv (q_load_ptr rfl rfl .p0 rfl) rfl <| AM.callp rfl (cmp_Compare_int_c rfl) (CoL.refl _) rfl <| AM.qv (n_field_ptr rfl rfl) rfl <| AM.qv (q_load_ptr rfl rfl .p1 rfl) rfl <| AM.qv (n_field_ptr rfl rfl) rfl <| AM.qv (q_load_ptr rfl rfl .p0 rfl) rfl <| AM.callp rfl (cmp_Compare_int_c rfl) (CoL.refl _) rfl <| AM.buildSliceL (xs := ([(Lib.compareBytes p0x0.Hub p1x0.Hub), (cmp_Compare_int p0x0.Sent p1x0.Sent), (cmp_Compare_int p0x0.Got p1x0.Got), (cmp_Compare_int p0x0.Back p1x0.Back)] : List Int).map I) rfl rfl rfl rfl rfl rfl <| bndE h fun v3 e1 h => AM.callp rfl (cmp_Or_int_c e1) (CoL.refl _) rfl <| AM.qv (q_assign rfl) rfl <| AM.nil <| rN <| ATodo.ret <| ?_
  obtain rfl := Option.some.inj h
  exact ImpX.here ⟨_, .cons (.tmp _ _ rfl) .nil, rfl⟩

set_option maxHeartbeats 4000000 in
theorem Q_PingsFault_c {p0x0 : List Ping} {r : Int} (h : Q_PingsFault p0x0 = some r) : Pu Tryd.prog 44 [.list 4 (p0x0.map Ping.av)] (I r) := by
  unfold Q_PingsFault at h
  refine ACall.bodyN Tryd.func44 rfl Tryd.ntmps44 Tryd.results44 rfl rfl ?_
  refine tSR <| rA rfl rfl <| rN <| tS <| tSR <| rM rfl rfl <| ARun.qv (t_len rfl) rfl <| ARun.qv (q_gtr rfl rfl) rfl <| rN <| ATodo.cond_d rfl (fun hc => ?_) (fun hc => ?_)
  · refine have h := iteT hc h; tSR <| rA rfl rfl <| rN <| ATodo.ret <| ?_
    obtain rfl := Option.some.inj h
    exact ImpX.here ⟨_, .cons (.tmp _ _ rfl) .nil, rfl⟩
  · refine have h := iteF hc h; tK <| tS <| tSR <| rM rfl rfl <| ARun.qv (t_len rfl) rfl <| rM rfl rfl <| rN <| ATodo.block <| ATodo.loopI (fun x : Int => Q_PingsFault_b1 p0x0 x) (fun x σ' => σ' = ⟨58, [(0, .list 4 (p0x0.map Ping.av)), (8, .list 4 (p0x0.map Ping.av)), (9, I (p0x0.length : Int)), (10, I x)], []⟩) h ?_ ?_
    · exact ImpX.lq [] rfl rfl rfl
    · intro n2 z1 σ' J1 hmk h hJ1 hA1
      obtain rfl := hmk
      replace h : Q_PingsFault_b1 p0x0 n2 = some z1 := h
      unfold Q_PingsFault_b1 at h
      refine tSR <| ARun.qv (q_lss rfl rfl) rfl <| rN <| tS <| ATodo.cond_d rfl (fun hc => ?_) (fun hc => ?_)
      · refine have h := iteT hc h; tK <| tS <| ATodo.block <| tSR <| rM rfl rfl <| bndE h fun v3 e1 h => ARun.qv (t_index rfl rfl rfl e1 rfl rfl) rfl <| ARun.qv (q_load_rptr_agg rfl rfl rfl) rfl <| n_alloc rfl rfl rfl rfl fun b4 => rA rfl rfl <| n_store_ptr rfl rfl rfl rfl .p0 rfl rfl <| rN <| ATodo.block <| tSR <| rF rfl rfl rfl <| rL rfl rfl .p0 rfl rfl <| bndE h fun v5 e2 h => r_callp rfl (Q_Key_c e2) (CoL.refl _) rfl <| ARun.qv (q_not rfl) rfl <| rA rfl rfl <| rN <| ATodo.cond rfl (fun hc => ?_) (fun hc => ?_)
        · refine have h := iteT hc h; tSR <| rA rfl rfl <| rN <| ATodo.ret <| have h := outL h hA1; ?_
          obtain rfl := Option.some.inj h
          exact ImpX.here ⟨_, .cons (.tmp _ _ rfl) .nil, rfl⟩
        · refine have h := iteFb hc h; tS <| ATodo.cut (fun σ' => ∃ (c6 : Bool), Q_PingsFault_j1 p0x0 n2 v3 c6 = some z1 ∧ σ' = ⟨58, [(0, .list 4 (p0x0.map Ping.av)), (3, I n2), (4, .ptr b4 0), (8, .list 4 (p0x0.map Ping.av)), (9, I (p0x0.length : Int)), (10, I n2), (20, .bool c6)], [(b4, .cells [.str v3.Hub, I v3.Sent, I v3.Got, I v3.Back])]⟩) ?_ ?_
          · refine tR <| rF rfl rfl rfl <| rL rfl rfl .p0 rfl rfl <| r_callp rfl (Q_MomentFault_c rfl) (CoL.refl _) rfl <| ARun.qv (q_neq rfl rfl) rfl <| rM rfl rfl <| ARun.guard_df rfl rfl rfl (fun hc => ?_) (fun hc => ?_)
            · rw [orFd hc] at h
              refine rF rfl rfl rfl <| rY rfl rfl rfl <| rL rfl rfl .p0 rfl rfl <| rY rfl rfl rfl <| r_callp rfl (Q_MomentFault_c rfl) (CoL.refl _) rfl <| rY rfl rfl rfl <| ARun.qv (q_neq rfl rfl) rfl <| rE rfl rfl rfl <| rM rfl rfl <| ARun.guard_df rfl rfl rfl (fun hc => ?_) (fun hc => ?_)
              · rw [orFd hc] at h
                refine rF rfl rfl rfl <| rY rfl rfl rfl <| rL rfl rfl .p0 rfl rfl <| rY rfl rfl rfl <| r_callp rfl (Q_MomentFault_c rfl) (CoL.refl _) rfl <| rY rfl rfl rfl <| ARun.qv (q_neq rfl rfl) rfl <| rE rfl rfl rfl <| rM rfl rfl <| ARun.guard_df rfl rfl rfl (fun hc => ?_) (fun hc => ?_)
                · rw [orFd hc] at h
                  exact rF rfl rfl rfl <| rY rfl rfl rfl <| rL rfl rfl .p0 rfl rfl <| rY rfl rfl rfl <| rF rfl rfl rfl <| rY rfl rfl rfl <| rL rfl rfl .p0 rfl rfl <| rY rfl rfl rfl <| ARun.qv (q_lss rfl rfl) rfl <| rE rfl rfl rfl <| rA rfl rfl <| rN <| ATodo.stop <| ImpX.lq [0] ⟨decide (v3.Back < v3.Sent), h, rfl⟩ rfl rfl
                · rw [orTd hc] at h
                  exact rG rfl rfl rfl rfl <| rG rfl rfl rfl rfl <| rG rfl rfl rfl rfl <| rG rfl rfl rfl rfl <| rT rfl rfl rfl <| rA rfl rfl <| rN <| ATodo.stop <| ImpX.lq [0] ⟨true, h, rfl⟩ rfl rfl
              · rw [orTd hc] at h
                exact rG rfl rfl rfl rfl <| rG rfl rfl rfl rfl <| rG rfl rfl rfl rfl <| rT rfl rfl rfl <| rM rfl rfl <| rG rfl rfl rfl rfl <| rG rfl rfl rfl rfl <| rG rfl rfl rfl rfl <| rG rfl rfl rfl rfl <| rG rfl rfl rfl rfl <| rT rfl rfl rfl <| rA rfl rfl <| rN <| ATodo.stop <| ImpX.lq [0] ⟨true, h, rfl⟩ rfl rfl
            · rw [orTd hc] at h
              exact rG rfl rfl rfl rfl <| rG rfl rfl rfl rfl <| rG rfl rfl rfl rfl <| rT rfl rfl rfl <| rM rfl rfl <| rG rfl rfl rfl rfl <| rG rfl rfl rfl rfl <| rG rfl rfl rfl rfl <| rG rfl rfl rfl rfl <| rT rfl rfl rfl <| rM rfl rfl <| rG rfl rfl rfl rfl <| rG rfl rfl rfl rfl <| rG rfl rfl rfl rfl <| rG rfl rfl rfl rfl <| rG rfl rfl rfl rfl <| rT rfl rfl rfl <| rA rfl rfl <| rN <| ATodo.stop <| ImpX.lq [0] ⟨true, h, rfl⟩ rfl rfl
          · rintro σ' ⟨c6, h, rfl⟩
            unfold Q_PingsFault_j1 at h
            refine ATodo.cond rfl (fun hc => ?_) (fun hc => ?_)
            · refine have h := iteT hc h; tSR <| rA rfl rfl <| rN <| ATodo.ret <| have h := outL h hA1; ?_
              obtain rfl := Option.some.inj h
              exact ImpX.here ⟨_, .cons (.tmp _ _ rfl) .nil, rfl⟩
            · refine have h := iteFb hc h; tS <| ATodo.cut (fun σ' => ∃ (c7 : Bool), Q_PingsFault_j2 n2 c7 = some z1 ∧ σ' = ⟨58, [(0, .list 4 (p0x0.map Ping.av)), (8, .list 4 (p0x0.map Ping.av)), (9, I (p0x0.length : Int)), (10, I n2), (44, .bool c7)], []⟩) ?_ ?_
              · refine ATodo.regionM (id := 10) (A := [0, 1, 3, 7, 7, 23, 63, 127, 7, 511, 1023, 2047, 4095]) 13 mixed rfl (by kernel_rfl) (by kernel_rfl) <| AM.qv (q_move rfl) rfl <| AM.qv (q_gtr rfl rfl) rfl <| AM.qv (q_move rfl) rfl <| AM.guard_dt rfl rfl rfl (fun hc => ?_) (fun hc => ?_)
                · exact have h := iteT hc h; AM.qv (q_move rfl) rfl <| AM.guard_yes rfl rfl rfl <| AM.qv (q_move rfl) rfl <| AM.guard_yes rfl rfl rfl <| AM.qv (q_subw rfl rfl) rfl <| AM.guard_yes rfl rfl rfl <| bndE h fun v8 e3 h => AM.qv (t_index rfl rfl rfl e3 rfl rfl) rfl <| AM.guard_yes rfl rfl rfl <| AM.qv (q_load_rptr_agg rfl rfl rfl) rfl <| AM.guard_yes rfl rfl rfl <| AM.qv (q_load_ptr_all rfl rfl .p0 rfl) rfl <| AM.guard_yes rfl rfl rfl <| bndE h fun v9 e4 h => AM.callp rfl (Q_pingOrder_c e4) (CoL.refl _) rfl <| AM.guard_yes rfl rfl rfl <| AM.qv (q_geq rfl rfl) rfl <| AM.qv (q_pick_t rfl rfl) rfl <| AM.qv (q_assign rfl) rfl <| AM.nil <| rN <| ATodo.stop <| ImpX.lq [] ⟨decide ((0 : Int) ≤ v9), h, rfl⟩ rfl rfl
                · exact have h := iteF hc h; AM.guard_no rfl rfl rfl rfl <| AM.guard_no rfl rfl rfl rfl <| AM.guard_no rfl rfl rfl rfl <| AM.guard_no rfl rfl rfl rfl <| AM.guard_no rfl rfl rfl rfl <| AM.guard_no rfl rfl rfl rfl <| AM.guard_no rfl rfl rfl rfl <| AM.qv (q_pick_f rfl rfl) rfl <| AM.qv (q_assign rfl) rfl <| AM.nil <| rN <| ATodo.stop <| ImpX.lq [] ⟨false, h, rfl⟩ rfl rfl
              · rintro σ' ⟨c7, h, rfl⟩
                unfold Q_PingsFault_j2 at h
                refine ATodo.cond rfl (fun hc => ?_) (fun hc => ?_)
                · refine have h := iteT hc h; tSR <| rA rfl rfl <| rN <| ATodo.ret <| have h := outL h hA1; ?_
                  obtain rfl := Option.some.inj h
                  exact ImpX.here ⟨_, .cons (.tmp _ _ rfl) .nil, rfl⟩
                · refine have h := iteFb hc h; tK <| ATodo.blk <| ATodo.blk <| tR <| ARun.qv (q_addw rfl rfl) rfl <| rM rfl rfl <| rN <| ATodo.stop <| ?_
                  obtain rfl := Option.some.inj h
                  exact hJ1 _ _ rfl <| ImpX.lq [] rfl rfl rfl
      · refine have h := iteF hc h; ATodo.exit rfl <| have h := outL h hA1; tSR <| rA rfl rfl <| rN <| ATodo.ret <| ?_
        obtain rfl := Option.some.inj h
        exact ImpX.here ⟨_, .cons (.tmp _ _ rfl) .nil, rfl⟩

set_option maxHeartbeats 4000000 in
theorem Q_KeyFault_c {p0x0 : Str} {r : Int} (h : Q_KeyFault p0x0 = some r) : Pu Tryd.prog 45 [.str p0x0] (I r) := by
  unfold Q_KeyFault at h
  refine ACall.bodyN Tryd.func45 rfl Tryd.ntmps45 Tryd.results45 rfl rfl ?_
  refine tSR <| rA rfl rfl <| rN <| tS <| tSR <| rM rfl rfl <| bndE h fun v1 e1 h => r_callp rfl (Q_Key_c e1) (CoL.refl _) rfl <| ARun.qv (q_not rfl) rfl <| rN <| ATodo.cond rfl (fun hc => ?_) (fun hc => ?_)
  · refine have h := iteT hc h; tSR <| rA rfl rfl <| rN <| ATodo.ret <| ?_
    obtain rfl := Option.some.inj h
    exact ImpX.here ⟨_, .cons (.tmp _ _ rfl) .nil, rfl⟩
  · refine have h := iteFb hc h; tK <| tSR <| rA rfl rfl <| rN <| ATodo.ret <| ?_
    obtain rfl := Option.some.inj h
    exact ImpX.here ⟨_, .cons (.tmp _ _ rfl) .nil, rfl⟩

set_option maxHeartbeats 4000000 in
theorem cmp_Or_Errno_c [GI : GTab] {p0x0 : List Int} {r : Int} (h : cmp_Or_Errno p0x0 = some r) : Pu Tryd.prog 43 [.list 1 (p0x0.map I)] (I r) := by
  unfold cmp_Or_Errno at h
  refine ACall.bodyN Tryd.func43 rfl Tryd.ntmps43 Tryd.results43 rfl rfl ?_
  refine tSR <| rA rfl rfl <| rN <| tSR <| rA rfl rfl <| rN <| tS <| tSR <| rM rfl rfl <| ARun.qv (t_len rfl) rfl <| rM rfl rfl <| rN <| ATodo.block <| ATodo.loopI (fun x : Int => cmp_Or_Errno_b1 p0x0 x) (fun x σ' => σ' = ⟨18, [(3, I (0 : Int)), (6, .list 1 (p0x0.map I)), (7, I (p0x0.length : Int)), (8, I x)], []⟩) h ?_ ?_
  · exact ImpX.lq [] rfl rfl rfl
  · intro n2 z1 σ' J1 hmk h hJ1 hA1
    obtain rfl := hmk
    replace h : cmp_Or_Errno_b1 p0x0 n2 = some z1 := h
    unfold cmp_Or_Errno_b1 at h
    refine tSR <| ARun.qv (q_lss rfl rfl) rfl <| rN <| tS <| ATodo.cond_d rfl (fun hc => ?_) (fun hc => ?_)
    · refine have h := iteT hc h; tK <| tS <| ATodo.block <| tSR <| bndE h fun v3 e1 h => ARun.qv (t_index rfl rfl rfl e1 rfl rfl) rfl <| ARun.qv (q_load_rptr rfl rfl rfl) rfl <| rA rfl rfl <| rN <| tSR <| rM rfl rfl <| rM rfl rfl <| ARun.qv (q_neq rfl rfl) rfl <| rN <| ATodo.cond_d rfl (fun hc => ?_) (fun hc => ?_)
      · refine have h := iteT hc h; tSR <| rM rfl rfl <| rA rfl rfl <| rN <| ATodo.ret <| have h := outL h hA1; ?_
        obtain rfl := Option.some.inj h
        exact ImpX.here ⟨_, .cons (.tmp _ _ rfl) .nil, rfl⟩
      · refine have h := iteF hc h; tK <| ATodo.blk <| tR <| ARun.qv (q_addw rfl rfl) rfl <| rM rfl rfl <| rN <| ATodo.stop <| ?_
        obtain rfl := Option.some.inj h
        exact hJ1 _ _ rfl <| ImpX.lq [] rfl rfl rfl
    · refine have h := iteF hc h; ATodo.exit rfl <| have h := outL h hA1; tSR <| rM rfl rfl <| rA rfl rfl <| rN <| ATodo.ret <| ?_
      obtain rfl := Option.some.inj h
      exact ImpX.here ⟨_, .cons (.tmp _ _ rfl) .nil, rfl⟩

set_option maxHeartbeats 4000000 in
theorem slices_Clone_Ping_Ping_c [GI : GTab] {p0x0 : List Ping} {r : (List Ping)} (h : slices_Clone_Ping_Ping p0x0 = some r) : ACall Tryd.prog 93 [.list 4 (p0x0.map Ping.av)] [] (T1 (fun d_0 => [(d_0, .arr 4 (r.map Ping.av))]) (fun d_0 => .sl 4 d_0 0 r.length)) := by
  unfold slices_Clone_Ping_Ping at h
  refine ACall.lessH ?_
  refine ACall.bodyN Tryd.func93 rfl Tryd.ntmps93 Tryd.results93 rfl rfl ?_
  refine ATodo.seq ?_
  refine ATodo.region ?_
  refine ARun.qv (q_assign rfl) rfl ?_
  refine ARun.nil ?_
  refine ATodo.seq ?_
  refine ATodo.seq ?_
  refine ATodo.region ?_
  refine ARun.qv (q_move rfl) rfl ?_
  refine r_eqnil rfl rfl rfl rfl (fun c hc => ?_)
  refine ARun.nil ?_
  refine ATodo.cond rfl (fun hT => ?_) (fun hF => ?_)
  · obtain rfl := app_nil_some h (List.map_eq_nil_iff.1 (hc hT))
    refine ATodo.seq ?_
    refine ATodo.region ?_
    refine ARun.qv (q_assign rfl) rfl ?_
    refine ARun.nil ?_
    refine ATodo.ret ?_
    refine ImpX.arr (s := 2) 4 rfl (fun b1 => ?_)
    exact ImpX.here ⟨_, .cons (.tmp _ _ rfl) .nil, _, .cons .here .nil, ⟨b1, rfl, rfl⟩⟩
  · refine ATodo.skip ?_
    refine ATodo.seq ?_
    refine ATodo.region ?_
    refine n_buildSlice (xs := ([] : List Ping).map Ping.av) rfl rfl rfl rfl rfl rfl (fun b2 => ?_)
    refine ARun.qv (q_move rfl) rfl ?_
    refine t_append (g := Ping.av) (Xs := []) rfl rfl rfl rfl rfl rfl rfl rfl (.list _) h (fun _ => .here) rfl (fun b3 => ?_)
    refine ARun.qv (q_assign rfl) rfl ?_
    refine ARun.nil ?_
    refine ATodo.ret ?_
    exact ImpX.here ⟨_, .cons (.tmp _ _ rfl) .nil, _, .cons .here .nil, ⟨b3, rfl, rfl⟩⟩

set_option maxHeartbeats 4000000 in
theorem Q_OffsetOf_1x_c [GI : GTab] {p0x0 : Ping} {p1x0 : Str} {r : Bool} (h : Q_OffsetOf_1x p0x0 p1x0 = r) : Pu Tryd.prog 94 [.agg [.str p0x0.Hub, I p0x0.Sent, I p0x0.Got, I p0x0.Back], .rptr [.str p1x0]] (.bool r) := by
  unfold Q_OffsetOf_1x at h
  refine ACall.bodyN Tryd.func94 rfl Tryd.ntmps94 Tryd.results94 rfl rfl ?_
  refine tSR <| n_box rfl rfl rfl rfl fun b1 => rA rfl rfl <| rN <| tSR <| rF rfl rfl rfl <| rL rfl rfl .p0 rfl rfl <| ARun.qv (q_load_rptr rfl rfl rfl) rfl <| ARun.qv (q_sne rfl rfl) rfl <| rA rfl rfl <| rN <| ATodo.ret <| ?_
  obtain rfl := h
  exact ImpX.here ⟨_, .cons (.tmp _ _ rfl) .nil, rfl⟩

set_option maxHeartbeats 4000000 in
theorem slices_IndexFunc_Ping_Ping_c [GI : GTab] {p0x0 : List Ping} {fnb : Ping → Option Bool} {fnb_F : FuncId} [IsFn Tryd.prog fnb_F] {fnb_C : List AV} (fnb_h : ∀ {y0 : _} {u : Bool}, fnb y0 = some u → Pu Tryd.prog fnb_F (.agg [.str y0.Hub, I y0.Sent, I y0.Got, I y0.Back] ::  fnb_C) (.bool u)) {r : Int} (h : slices_IndexFunc_Ping_Ping p0x0 fnb = some r) : Pu Tryd.prog 127 [.list 4 (p0x0.map Ping.av), .func (.func fnb_F) fnb_C] (I r) := by
  unfold slices_IndexFunc_Ping_Ping at h
  refine ACall.bodyN Tryd.func127 rfl Tryd.ntmps127 Tryd.results127 rfl rfl ?_
  refine tSR <| rA rfl rfl <| rN <| tS <| tSR <| rM rfl rfl <| ARun.qv (t_len rfl) rfl <| rM rfl rfl <| rN <| ATodo.block <| ATodo.loopI (fun x : Int => slices_IndexFunc_Ping_Ping_b1 p0x0 fnb x) (fun x σ' => σ' = ⟨19, [(0, .list 4 (p0x0.map Ping.av)), (1, .func (.func fnb_F) fnb_C), (7, I (p0x0.length : Int)), (8, I x)], []⟩) h ?_ ?_
  · exact ImpX.lq [] rfl rfl rfl
  · intro n2 z1 σ' J1 hmk h hJ1 hA1
    obtain rfl := hmk
    replace h : slices_IndexFunc_Ping_Ping_b1 p0x0 fnb n2 = some z1 := h
    unfold slices_IndexFunc_Ping_Ping_b1 at h
    refine tSR <| ARun.qv (q_lss rfl rfl) rfl <| rN <| tS <| ATodo.cond_d rfl (fun hc => ?_) (fun hc => ?_)
    · refine have h := iteT hc h; tK <| tS <| ATodo.block <| tSR <| rM rfl rfl <| rA rfl rfl <| rN <| tSR <| rM rfl rfl <| rM rfl rfl <| rM rfl rfl <| bndE h fun v3 e1 h => ARun.qv (t_index rfl rfl rfl e1 rfl rfl) rfl <| ARun.qv (q_load_rptr_agg rfl rfl rfl) rfl <| bndE h fun v4 e2 h => r_callvp rfl rfl (fnb_h e2) (CoL.refl _) rfl <| rN <| ATodo.cond rfl (fun hc => ?_) (fun hc => ?_)
      · refine have h := iteT hc h; tSR <| rM rfl rfl <| rA rfl rfl <| rN <| ATodo.ret <| have h := outL h hA1; ?_
        obtain rfl := Option.some.inj h
        exact ImpX.here ⟨_, .cons (.tmp _ _ rfl) .nil, rfl⟩
      · refine have h := iteFb hc h; tK <| ATodo.blk <| tR <| ARun.qv (q_addw rfl rfl) rfl <| rM rfl rfl <| rN <| ATodo.stop <| ?_
        obtain rfl := Option.some.inj h
        exact hJ1 _ _ rfl <| ImpX.lq [] rfl rfl rfl
    · refine have h := iteF hc h; ATodo.exit rfl <| have h := outL h hA1; tSR <| rA rfl rfl <| rN <| ATodo.ret <| ?_
      obtain rfl := Option.some.inj h
      exact ImpX.here ⟨_, .cons (.tmp _ _ rfl) .nil, rfl⟩

set_option maxHeartbeats 4000000 in
theorem slices_DeleteFunc_Ping_Ping_c [GI : GTab] {b_0 : Bk} {p0x0 : List Ping} {fnb : Ping → Option Bool} {fnb_F : FuncId} [IsFn Tryd.prog fnb_F] {fnb_C : List AV} (fnb_h : ∀ {y0 : _} {u : Bool}, fnb y0 = some u → Pu Tryd.prog fnb_F (.agg [.str y0.Hub, I y0.Sent, I y0.Got, I y0.Back] ::  fnb_C) (.bool u)) {r : (List Ping)} (h : slices_DeleteFunc_Ping_Ping p0x0 fnb = some r) : ACall Tryd.prog 92 [.sl 4 b_0 0 p0x0.length, .func (.func fnb_F) fnb_C] [(b_0, .arr 4 (p0x0.map Ping.av))] (T1 (fun d_0 => [(d_0, .arr 4 (r.map Ping.av))]) (fun d_0 => .sl 4 d_0 0 r.length)) := by
  unfold slices_DeleteFunc_Ping_Ping at h
  refine ACall.lessH ?_
  refine ACall.bodyN Tryd.func92 rfl Tryd.ntmps92 Tryd.results92 rfl rfl ?_
  refine tSR <| rA rfl rfl <| rN <| tSR <| rM rfl rfl <| rM rfl rfl <| bndE h fun v1 e1 h => r_callpB rfl (slices_IndexFunc_Ping_Ping_c fnb_h e1) (.cons (CoB.arrT .p0) (.cons (.co (.refl _)) .nil)) rfl rfl <| rA rfl rfl <| rN <| tS <| tSR <| rM rfl rfl <| ARun.qv (q_eql rfl rfl) rfl <| rN <| ATodo.cond_d rfl (fun hc => ?_) (fun hc => ?_)
  · refine have h := iteT hc h; tSR <| rM rfl rfl <| rA rfl rfl <| rN <| ATodo.ret <| ?_
    obtain rfl := Option.some.inj h
    exact ImpX.here ⟨_, .cons (.tmp _ _ rfl) .nil, _, .cons .p0 .nil, ⟨b_0, rfl, rfl⟩⟩
  · refine have h := iteF hc h; tK <| tS <| tSR <| rM rfl rfl <| ARun.qv (q_addw rfl rfl) rfl <| rA rfl rfl <| rN <| ATodo.block <| ATodo.loopI (fun x : (List Ping) × Int × Int => slices_DeleteFunc_Ping_Ping_b1 fnb x.1 x.2.1 x.2.2) (fun x σ' => σ' = ⟨42, [(0, .sl 4 b_0 0 x.1.length), (1, .func (.func fnb_F) fnb_C), (5, I x.2.1), (6, I x.2.2)], [(b_0, .arr 4 (x.1.map Ping.av))]⟩) h ?_ ?_
    · exact ImpX.lq [0] rfl rfl rfl
    · intro x z1 σ' J1 hmk h hJ1 hA1
      obtain ⟨l5, n6, n7⟩ := x
      obtain rfl := hmk
      replace h : slices_DeleteFunc_Ping_Ping_b1 fnb l5 n6 n7 = some z1 := h
      unfold slices_DeleteFunc_Ping_Ping_b1 at h
      refine tS <| tSR <| rM rfl rfl <| rM rfl rfl <| ARun.qv (t_len_sl rfl) rfl <| ARun.qv (q_lss rfl rfl) rfl <| rN <| ATodo.cond_d rfl (fun hc => ?_) (fun hc => ?_)
      · refine have h := iteT hc h; tK <| tS <| ATodo.block <| tSR <| rM rfl rfl <| rM rfl rfl <| bndE h fun v8 e2 h => ARun.qv (t_index_sl rfl rfl rfl e2) rfl <| ARun.qv (t_load_aptr_agg (g := Ping.av) rfl rfl (.inl .p0) rfl e2 rfl) rfl <| n_alloc rfl rfl rfl rfl fun b9 => n_store_ptr rfl rfl rfl rfl .p0 rfl rfl <| rN <| tSR <| rM rfl rfl <| ARun.qv (q_load_ptr_all rfl rfl .p0 rfl) rfl <| bndE h fun v10 e3 h => r_callvp rfl rfl (fnb_h e3) (CoL.refl _) rfl <| ARun.qv (q_not rfl) rfl <| rN <| ATodo.cut (fun σ' => ∃ (l11 : List Ping) (n12 : Int), slices_DeleteFunc_Ping_Ping_j1 n7 l11 n12 = some z1 ∧ σ' = ⟨42, [(0, .sl 4 b_0 0 l11.length), (1, .func (.func fnb_F) fnb_C), (5, I n12), (6, I n7)], [(b_0, .arr 4 (l11.map Ping.av))]⟩) ?_ ?_
        · refine ATodo.cond rfl (fun hc => ?_) (fun hc => ?_)
          · exact have h := iteT hc h; tSR <| rM rfl rfl <| rM rfl rfl <| ARun.qv (q_load_ptr_all rfl rfl .p0 rfl) rfl <| bndE h fun v13 e4 h => ARun.qv (t_index_sl rfl rfl rfl e4) rfl <| t_store_aptr1 (g := Ping.av) (el' := v8) rfl rfl rfl rfl e4 rfl .p1 rfl <| ARun.ghost <| ImpX.eqs (s := 0) (av' := .sl 4 b_0 0 (l5.set n6.toNat v8).length) rfl (by rw [List.length_set]) <| ImpX.here <| ARun.ghost <| ImpX.eqs (s := 17) (av' := .sl 4 b_0 0 (l5.set n6.toNat v8).length) rfl (by rw [List.length_set]) <| ImpX.here <| ARun.ghost <| ImpX.eqs (s := 22) (av' := .sl 4 b_0 0 (l5.set n6.toNat v8).length) rfl (by rw [List.length_set]) <| ImpX.here <| ARun.ghost <| ImpX.eqs (s := 30) (av' := .sl 4 b_0 0 (l5.set n6.toNat v8).length) rfl (by rw [List.length_set]) <| ImpX.here <| rN <| tR <| rM rfl rfl <| ARun.qv (q_addw rfl rfl) rfl <| rA rfl rfl <| rN <| ATodo.stop <| ImpX.lq [1] ⟨l5.set n6.toNat v8, w64 (n6 + (1 : Int)), h, rfl⟩ rfl rfl
          · exact have h := iteFb hc h; tK <| ATodo.stop <| ImpX.lq [1] ⟨l5, n6, h, rfl⟩ rfl rfl
        · rintro σ' ⟨l11, n12, h, rfl⟩
          unfold slices_DeleteFunc_Ping_Ping_j1 at h
          refine ATodo.blk <| tR <| rM rfl rfl <| ARun.qv (q_addw rfl rfl) rfl <| rA rfl rfl <| rN <| ATodo.stop <| ?_
          obtain rfl := Option.some.inj h
          exact hJ1 _ _ rfl <| ImpX.lq [0] rfl rfl rfl
      · refine have h := iteF hc h; ATodo.exit rfl <| have h := outL h hA1; ?_
        unfold slices_DeleteFunc_Ping_Ping_k2 at h
        refine tSR <| rM rfl rfl <| rM rfl rfl <| bndE h fun l14 e5 h => ARun.qv (t_slice_sl rfl rfl (.some _ _ _ rfl) .none rfl rfl e5) rfl <| t_clear (g := Ping.av) (Z := (⟨[], (0 : Int), (0 : Int), (0 : Int)⟩ : Ping)) (L := n6) rfl rfl rfl rfl rfl rfl e5 .p0 <| ARun.ghost <| ImpX.eqs (s := 0) (av' := .sl 4 b_0 0 (clr l5 n6 l14.length (⟨[], (0 : Int), (0 : Int), (0 : Int)⟩ : Ping)).length) rfl (congrArg (AV.sl 4 b_0 0) (clr_len e5)) <| ImpX.here <| ARun.ghost <| ImpX.eqs (s := 17) (av' := .sl 4 b_0 0 (clr l5 n6 l14.length (⟨[], (0 : Int), (0 : Int), (0 : Int)⟩ : Ping)).length) rfl (congrArg (AV.sl 4 b_0 0) (clr_len e5)) <| ImpX.here <| ARun.ghost <| ImpX.eqs (s := 36) (av' := .sl 4 b_0 0 (clr l5 n6 l14.length (⟨[], (0 : Int), (0 : Int), (0 : Int)⟩ : Ping)).length) rfl (congrArg (AV.sl 4 b_0 0) (clr_len e5)) <| ImpX.here <| rN <| tSR <| rM rfl rfl <| rM rfl rfl <| bndE h fun l15 e6 h => ARun.qv (t_slice_sl rfl rfl .none (.some _ _ _ rfl) rfl rfl e6) rfl <| rA rfl rfl <| ARun.ghost <| ImpX.takeT e6 .p0 <| ImpX.here <| rN <| ATodo.ret <| ?_
        obtain rfl := Option.some.inj h
        exact ImpX.here ⟨_, .cons (.tmp _ _ rfl) .nil, _, .cons .p0 .nil, ⟨b_0, rfl, rfl⟩⟩

set_option maxHeartbeats 4000000 in
theorem slices_Sort_int_int_k : Sort1 Tryd.prog 97 (Value.int .i64) srtI := ⟨fun blk off cap zs w hH hb hs => Tryd.slices_Sort_int blk off cap zs w hH hb hs, fun p cap w => Tryd.slices_Sort_int_none p cap w⟩
theorem slices_Sort_int_int_c [GI : GTab] {b_0 : Bk} {p0x0 : List Int} {r : (List Int)} (h : slices_Sort_int_int p0x0 = some r) : ACall Tryd.prog 97 [.sl 1 b_0 0 p0x0.length] [(b_0, .arr 1 (p0x0.map I))] (T0 [(b_0, .arr 1 (r.map I))] (.tup [])) :=
  sortI_acall slices_Sort_int_int_k h

set_option maxHeartbeats 4000000 in
theorem Q_OffsetOf_2x_c [GI : GTab] {p0x0 : Int} {p1x0 : List Ping} {r : Int} (h : Q_OffsetOf_2x p0x0 p1x0 = some r) : Pu Tryd.prog 95 [I p0x0, .rptr [.list 4 (p1x0.map Ping.av)]] (I r) := by
  unfold Q_OffsetOf_2x at h
  refine ACall.bodyN Tryd.func95 rfl Tryd.ntmps95 Tryd.results95 rfl rfl ?_
  refine tSR <| rA rfl rfl <| rN <| tSR <| rA rfl rfl <| rN <| tS <| tSR <| ARun.qv (q_load_rptr rfl rfl rfl) rfl <| ARun.qv (t_len rfl) rfl <| rM rfl rfl <| rN <| ATodo.block <| ATodo.loopI (fun x : Int × Int => Q_OffsetOf_2x_b1 p0x0 p1x0 x.1 x.2) (fun x σ' => σ' = ⟨29, [(0, I p0x0), (4, I x.1), (7, .list 4 (p1x0.map Ping.av)), (8, I (p1x0.length : Int)), (9, I x.2)], []⟩) h ?_ ?_
  · exact ImpX.lq [] rfl rfl rfl
  · intro x z1 σ' J1 hmk h hJ1 hA1
    obtain ⟨n3, n4⟩ := x
    obtain rfl := hmk
    replace h : Q_OffsetOf_2x_b1 p0x0 p1x0 n3 n4 = some z1 := h
    unfold Q_OffsetOf_2x_b1 at h
    refine tSR <| ARun.qv (q_lss rfl rfl) rfl <| rN <| tS <| ATodo.cond_d rfl (fun hc => ?_) (fun hc => ?_)
    · refine have h := iteT hc h; tK <| tS <| ATodo.block <| tSR <| bndE h fun v5 e1 h => ARun.qv (t_index rfl rfl rfl e1 rfl rfl) rfl <| ARun.qv (q_load_rptr_agg rfl rfl rfl) rfl <| n_alloc rfl rfl rfl rfl fun b6 => n_store_ptr rfl rfl rfl rfl .p0 rfl rfl <| rN <| tSR <| rM rfl rfl <| rF rfl rfl rfl <| rL rfl rfl .p0 rfl rfl <| rF rfl rfl rfl <| rL rfl rfl .p0 rfl rfl <| ARun.qv (q_subw rfl rfl) rfl <| rF rfl rfl rfl <| rL rfl rfl .p0 rfl rfl <| rF rfl rfl rfl <| rL rfl rfl .p0 rfl rfl <| ARun.qv (q_subw rfl rfl) rfl <| r_callp rfl (Q_in_c rfl) (CoL.refl _) rfl <| rN <| ATodo.cut (fun σ' => ∃ (n7 : Int), Q_OffsetOf_2x_j1 n4 n7 = some z1 ∧ σ' = ⟨29, [(0, I p0x0), (4, I n7), (7, .list 4 (p1x0.map Ping.av)), (8, I (p1x0.length : Int)), (9, I n4)], []⟩) ?_ ?_
      · refine ATodo.cond rfl (fun hc => ?_) (fun hc => ?_)
        · exact have h := iteT hc h; tR <| rM rfl rfl <| ARun.qv (q_addw rfl rfl) rfl <| rA rfl rfl <| rN <| ATodo.stop <| ImpX.lq [] ⟨w64 (n3 + (1 : Int)), h, rfl⟩ rfl rfl
        · exact have h := iteFb hc h; tK <| ATodo.stop <| ImpX.lq [] ⟨n3, h, rfl⟩ rfl rfl
      · rintro σ' ⟨n7, h, rfl⟩
        unfold Q_OffsetOf_2x_j1 at h
        refine ATodo.blk <| tR <| ARun.qv (q_addw rfl rfl) rfl <| rM rfl rfl <| rN <| ATodo.stop <| ?_
        obtain rfl := Option.some.inj h
        exact hJ1 _ _ rfl <| ImpX.lq [] rfl rfl rfl
    · refine have h := iteF hc h; ATodo.exit rfl <| have h := outL h hA1; tSR <| rM rfl rfl <| rA rfl rfl <| rN <| ATodo.ret <| ?_
      obtain rfl := Option.some.inj h
      exact ImpX.here ⟨_, .cons (.tmp _ _ rfl) .nil, rfl⟩

set_option maxHeartbeats 4000000 in
theorem Q_OffsetOf_c [GI : GTab] {p0x0 : List Ping} {p1x0 : Str} {r : Offset × Bool} (h : Q_OffsetOf p0x0 p1x0 = some r) : Pu Tryd.prog 47 [.list 4 (p0x0.map Ping.av), .str p1x0] (.tup [.agg [I r.1.Low, I r.1.High, I r.1.Many], .bool r.2]) := by
  unfold Q_OffsetOf at h
  refine ACall.bodyN Tryd.func47 rfl Tryd.ntmps47 Tryd.results47 rfl rfl ?_
  refine tSR <| n_box rfl rfl rfl rfl fun b1 => n_box rfl rfl rfl rfl fun b2 => n_alloc rfl rfl rfl rfl fun b3 => rA rfl rfl <| rN <| tSR <| rL rfl rfl .p2 rfl rfl <| bndE h fun v4 e1 h => t_call1 rfl (slices_Clone_Ping_Ping_c e1) (CoL.refl _) .nil (fun _ => rfl) rfl fun b5 => ARun.qv (q_makeFunc rfl) rfl <| bndE h fun v6 e2 h => t_callL1 rfl (slices_DeleteFunc_Ping_Ping_c (fun e => Q_OffsetOf_1x_c (Option.some.inj e)) e2) (.cons .p0 .nil) (.cons (.co (.refl _)) (.cons (.funcL _ _ _ (.cons (.boxL _ _ _ .p1 (.cons (.co (.refl _)) .nil)) .nil)) .nil)) (fun _ => rfl) (fun _ => rfl) (fun _ => (.cons (NoS.arrT (fun _ => rfl)) .nil)) rfl fun b7 => n_store_ptr rfl rfl rfl rfl .p3 rfl rfl <| rN <| tS <| tSR <| rL rfl rfl .p3 rfl rfl <| ARun.qv (t_len_sl rfl) rfl <| ARun.qv (q_eql rfl rfl) rfl <| rN <| ATodo.cond_d rfl (fun hc => ?_) (fun hc => ?_)
  · refine have h := iteT hc h; tSR <| ARun.qv (n_build rfl rfl rfl rfl rfl) rfl <| n_store_ptr rfl rfl rfl rfl .p1 rfl rfl <| rA rfl rfl <| rN <| ATodo.ret <| ?_
    obtain rfl := Option.some.inj h
    exact ImpX.here ⟨_, .cons (.all _ _ _ _ _ _ rfl .p1 TUnder.h TInfo.h rfl rfl) (.cons (.tmp _ _ rfl) .nil), rfl⟩
  · refine have h := iteF hc h; tK <| tSR <| ARun.qv (q_makeFunc rfl) rfl <| rA rfl rfl <| rN <| tSR <| rA rfl rfl <| rN <| tS <| tSR <| rL rfl rfl .p3 rfl rfl <| ARun.qv (t_len_sl rfl) rfl <| rM rfl rfl <| rN <| ATodo.block <| ATodo.loopI (fun x : (List Int) × Int => Q_OffsetOf_b1 v6 x.1 x.2) (fun x σ' => ∃ (b11 : Bk), σ' = ⟨89, [(4, .ptr b3 0), (6, .func (.func 95) [.ptr b1 0]), (7, .sl 1 b11 0 x.1.length), (25, .sl 4 b7 0 v6.length), (26, I (v6.length : Int)), (27, I x.2)], [(b3, .cells [I (0 : Int), I (0 : Int), I (0 : Int)]), (b1, .cells [.sl 4 b7 0 v6.length]), (b7, .arr 4 (v6.map Ping.av)), (b11, .arr 1 (x.1.map I))]⟩) h ?_ ?_
    · exact ImpX.arr (s := 7) 1 rfl fun b14 => ImpX.lq [2, 3, 1, 0] ⟨b14, rfl⟩ rfl rfl
    · intro x z1 σ' J1 hmk h hJ1 hA1
      obtain ⟨l12, n13⟩ := x
      obtain ⟨b11, rfl⟩ := hmk
      replace h : Q_OffsetOf_b1 v6 l12 n13 = some z1 := h
      unfold Q_OffsetOf_b1 at h
      refine tSR <| ARun.qv (q_lss rfl rfl) rfl <| rN <| tS <| ATodo.cond_d rfl (fun hc => ?_) (fun hc => ?_)
      · refine have h := iteT hc h; tK <| tS <| ATodo.block <| tSR <| bndE h fun v15 e3 h => ARun.qv (t_index_sl rfl rfl rfl e3) rfl <| ARun.qv (t_load_aptr_agg (g := Ping.av) rfl rfl (.inl .p2) rfl e3 rfl) rfl <| n_alloc rfl rfl rfl rfl fun b16 => n_store_ptr rfl rfl rfl rfl .p0 rfl rfl <| rN <| tR <| rM rfl rfl <| rF rfl rfl rfl <| rL rfl rfl .p0 rfl rfl <| rF rfl rfl rfl <| rL rfl rfl .p0 rfl rfl <| ARun.qv (q_subw rfl rfl) rfl <| rF rfl rfl rfl <| rL rfl rfl .p0 rfl rfl <| rF rfl rfl rfl <| rL rfl rfl .p0 rfl rfl <| ARun.qv (q_subw rfl rfl) rfl <| ARun.qv (q_addw rfl rfl) rfl <| n_buildSliceL (xs := ([w64 (v15.Got - v15.Back), w64 ((w64 (v15.Got - v15.Sent)) + (1 : Int))]).map I) rfl rfl rfl rfl rfl rfl <| bndE h fun l17 e4 h => t_append (g := I) rfl rfl rfl rfl rfl rfl rfl rfl (.list _) e4 (fun _ => .p4) rfl fun b18 => rA rfl rfl <| rN <| ATodo.blk <| tR <| ARun.qv (q_addw rfl rfl) rfl <| rM rfl rfl <| rN <| ATodo.stop <| ?_
        obtain rfl := Option.some.inj h
        exact hJ1 _ _ rfl <| ImpX.lq [1, 1, 1, 1] ⟨b18, rfl⟩ rfl rfl
      · refine have h := iteF hc h; ATodo.exit rfl <| have h := outL h hA1; ?_
        unfold Q_OffsetOf_k3 at h
        refine tSR <| rM rfl rfl <| bndE h fun v19 e5 h => t_call0 rfl (slices_Sort_int_int_c (lenOk_f e5)) (CoL.refl _) (.cons .p3 .nil) rfl rfl <| ARun.ghost <| ImpX.eqs (s := 7) (av' := .sl 1 b11 0 v19.length) rfl (congrArg (AV.sl 1 b11 0) (lenOk_l e5)) <| ImpX.here <| ARun.ghost <| ImpX.eqs (s := 46) (av' := .sl 1 b11 0 v19.length) rfl (congrArg (AV.sl 1 b11 0) (lenOk_l e5)) <| ImpX.here <| rN <| tSR <| ARun.qv (n_build rfl rfl rfl rfl rfl) rfl <| n_alloc rfl rfl rfl rfl fun b20 => n_store_ptr rfl rfl rfl rfl .p0 rfl rfl <| rN <| tS <| tSR <| rM rfl rfl <| ARun.qv (t_len_sl rfl) rfl <| rM rfl rfl <| rN <| ATodo.block <| ATodo.loopI (fun x : Int × Int × Int × Int => Q_OffsetOf_b2 v6 v19 x.1 x.2.1 x.2.2.1 x.2.2.2) (fun x σ' => σ' = ⟨89, [(4, .ptr b3 0), (6, .func (.func 95) [.ptr b1 0]), (7, .sl 1 b11 0 v19.length), (10, .ptr b20 0), (49, .sl 1 b11 0 v19.length), (50, I (v19.length : Int)), (51, I x.2.2.2)], [(b3, .cells [I (0 : Int), I (0 : Int), I (0 : Int)]), (b1, .cells [.sl 4 b7 0 v6.length]), (b7, .arr 4 (v6.map Ping.av)), (b11, .arr 1 (v19.map I)), (b20, .cells [I x.1, I x.2.1, I x.2.2.1])]⟩) h ?_ ?_
        · exact ImpX.lq [2, 2, 2, 1, 0] rfl rfl rfl
        · intro x z2 σ' J2 hmk h hJ2 hA2
          obtain ⟨n25, n26, n27, n28⟩ := x
          obtain rfl := hmk
          replace h : Q_OffsetOf_b2 v6 v19 n25 n26 n27 n28 = some z2 := h
          unfold Q_OffsetOf_b2 at h
          refine tSR <| ARun.qv (q_lss rfl rfl) rfl <| rN <| tS <| ATodo.cond_d rfl (fun hc => ?_) (fun hc => ?_)
          · refine have h := iteT hc h; tK <| tS <| ATodo.cut (fun σ' => ∃ (n29 : Int) (n30 : Int) (n31 : Int), Q_OffsetOf_j1 n28 n29 n30 n31 = some z2 ∧ σ' = ⟨89, [(4, .ptr b3 0), (6, .func (.func 95) [.ptr b1 0]), (7, .sl 1 b11 0 v19.length), (10, .ptr b20 0), (49, .sl 1 b11 0 v19.length), (50, I (v19.length : Int)), (51, I n28)], [(b3, .cells [I (0 : Int), I (0 : Int), I (0 : Int)]), (b1, .cells [.sl 4 b7 0 v6.length]), (b7, .arr 4 (v6.map Ping.av)), (b11, .arr 1 (v19.map I)), (b20, .cells [I n29, I n30, I n31])]⟩) ?_ ?_
            · refine ATodo.block <| tSR <| rM rfl rfl <| bndE h fun v32 e6 h => ARun.qv (t_index_sl rfl rfl rfl e6) rfl <| ARun.qv (t_load_aptr (g := I) rfl rfl (.inl .p3) e6 rfl) rfl <| rA rfl rfl <| rA rfl rfl <| rN <| tSR <| rM rfl rfl <| rM rfl rfl <| bndE h fun v33 e7 h => r_callvpB rfl rfl (Q_OffsetOf_2x_c e7) (.cons (.co (.refl _)) (.cons (.boxL _ _ _ .p1 (.cons (CoB.arrT .p2) .nil)) .nil)) rfl rfl <| rA rfl rfl <| rN <| tS <| tSR <| rM rfl rfl <| rF rfl rfl rfl <| rL rfl rfl .p4 rfl rfl <| ARun.qv (q_leq rfl rfl) rfl <| rN <| ATodo.cond_d rfl (fun hc => ?_) (fun hc => ?_)
              · exact have h := iteT hc h; ATodo.exit rfl <| ATodo.stop <| ImpX.lq [0, 0, 0, 0, 0] ⟨n25, n26, n27, h, rfl⟩ rfl rfl
              · refine have h := iteF hc h; tK <| tSR <| rM rfl rfl <| rM rfl rfl <| rM rfl rfl <| ARun.qv (n_build rfl rfl rfl rfl rfl) rfl <| n_store_ptr rfl rfl rfl rfl .p4 rfl rfl <| rN <| tSR <| rM rfl rfl <| rM rfl rfl <| bndE h fun l34 e8 h => ARun.qv (t_slice_sl rfl rfl (.some _ _ _ rfl) .none rfl rfl e8) rfl <| ARun.qv (t_len_sub rfl) rfl <| rM rfl rfl <| rN <| ATodo.cut (fun σ' => ∃ (n35 : Int), Q_OffsetOf_j2 n28 v32 v33 n35 = some z2 ∧ σ' = ⟨89, [(4, .ptr b3 0), (6, .func (.func 95) [.ptr b1 0]), (7, .sl 1 b11 0 v19.length), (10, .ptr b20 0), (49, .sl 1 b11 0 v19.length), (50, I (v19.length : Int)), (51, I n28)], [(b3, .cells [I (0 : Int), I (0 : Int), I (0 : Int)]), (b1, .cells [.sl 4 b7 0 v6.length]), (b7, .arr 4 (v6.map Ping.av)), (b11, .arr 1 (v19.map I)), (b20, .cells [I v32, I n35, I v33])]⟩) ?_ ?_
                · refine ATodo.block <| ATodo.loopI (fun x : Int × Int => Q_OffsetOf_b3 v6 v19 n28 v32 v33 l34 x.1 x.2) (fun x σ' => σ' = ⟨89, [(4, .ptr b3 0), (6, .func (.func 95) [.ptr b1 0]), (7, .sl 1 b11 0 v19.length), (10, .ptr b20 0), (13, I v33), (49, .sl 1 b11 0 v19.length), (50, I (v19.length : Int)), (51, I n28), (69, .sl 1 b11 n28.toNat l34.length), (70, I (l34.length : Int)), (71, I x.2)], [(b3, .cells [I (0 : Int), I (0 : Int), I (0 : Int)]), (b1, .cells [.sl 4 b7 0 v6.length]), (b7, .arr 4 (v6.map Ping.av)), (b11, .arr 1 (v19.map I)), (b20, .cells [I v32, I x.1, I v33])]⟩) h ?_ ?_
                  · exact ImpX.lq [0, 0, 0, 0, 0] rfl rfl rfl
                  · intro x z3 σ' J3 hmk h hJ3 hA3
                    obtain ⟨n38, n39⟩ := x
                    obtain rfl := hmk
                    replace h : Q_OffsetOf_b3 v6 v19 n28 v32 v33 l34 n38 n39 = some z3 := h
                    unfold Q_OffsetOf_b3 at h
                    refine tSR <| ARun.qv (q_lss rfl rfl) rfl <| rN <| tS <| ATodo.cond_d rfl (fun hc => ?_) (fun hc => ?_)
                    · refine have h := iteT hc h; tK <| tS <| ATodo.block <| tSR <| bndE h fun v40 e9 h => ARun.qv (t_index_sub (L := n28) rfl rfl rfl e9) rfl <| ARun.qv (t_load_aptr (g := I) rfl rfl (.inl .p3) (idxS_some e9).2 rfl) rfl <| rA rfl rfl <| rN <| tSR <| rF rfl rfl rfl <| rL rfl rfl .p4 rfl rfl <| rM rfl rfl <| ARun.qv (q_subw rfl rfl) rfl <| ARun.qv (q_max rfl rfl) rfl <| rF rfl rfl rfl <| n_store_ptr rfl rfl rfl rfl .p4 rfl rfl <| rN <| tSR <| rM rfl rfl <| rM rfl rfl <| bndE h fun v41 e10 h => r_callvpB rfl rfl (Q_OffsetOf_2x_c e10) (.cons (.co (.refl _)) (.cons (.boxL _ _ _ .p1 (.cons (CoB.arrT .p2) .nil)) .nil)) rfl rfl <| rM rfl rfl <| ARun.qv (q_neq rfl rfl) rfl <| rN <| ATodo.cond_d rfl (fun hc => ?_) (fun hc => ?_)
                      · exact have h := iteT hc h; ATodo.exit rfl <| have h := outL h hA3; ATodo.stop <| ImpX.lq [0, 0, 0, 0, 0] ⟨max n38 (w64 (v40 - (1 : Int))), h, rfl⟩ rfl rfl
                      · refine have h := iteF hc h; tK <| ATodo.blk <| tR <| ARun.qv (q_addw rfl rfl) rfl <| rM rfl rfl <| rN <| ATodo.stop <| ?_
                        obtain rfl := Option.some.inj h
                        exact hJ3 _ _ rfl <| ImpX.lq [0, 0, 0, 0, 0] rfl rfl rfl
                    · exact have h := iteF hc h; ATodo.exit rfl <| have h := outL h hA3; ATodo.stop <| ImpX.lq [0, 0, 0, 0, 0] ⟨n38, h, rfl⟩ rfl rfl
                · rintro σ' ⟨n35, h, rfl⟩
                  unfold Q_OffsetOf_j2 at h
                  exact ATodo.blk <| ATodo.stop <| ImpX.lq [0, 0, 0, 0, 0] ⟨v32, n35, v33, h, rfl⟩ rfl rfl
            · rintro σ' ⟨n29, n30, n31, h, rfl⟩
              unfold Q_OffsetOf_j1 at h
              refine tR <| ARun.qv (q_addw rfl rfl) rfl <| rM rfl rfl <| rN <| ATodo.stop <| ?_
              obtain rfl := Option.some.inj h
              exact hJ2 _ _ rfl <| ImpX.lq [0, 0, 0, 0, 0] rfl rfl rfl
          · refine have h := iteF hc h; ATodo.exit rfl <| have h := outL h hA2; tSR <| ARun.qv (q_load_ptr_all rfl rfl .p4 rfl) rfl <| n_store_ptr rfl rfl rfl rfl .p0 rfl rfl <| rA rfl rfl <| rN <| ATodo.ret <| ?_
            obtain rfl := Option.some.inj h
            exact ImpX.here ⟨_, .cons (.all _ _ _ _ _ _ rfl .p0 TUnder.h TInfo.h rfl rfl) (.cons (.tmp _ _ rfl) .nil), rfl⟩

set_option maxHeartbeats 4000000 in
theorem L_hubbed_c [GI : GTab] {r : Bool} (h : L_hubbed = some r) : Pu Tryd.prog 49 [] (.bool r) := by
  unfold L_hubbed at h
  refine ACall.bodyN Tryd.func49 rfl Tryd.ntmps49 Tryd.results49 rfl rfl ?_
  refine tSR <| rA rfl rfl <| rN <| tSR <| ARun.qv (n_build rfl rfl rfl rfl rfl) rfl <| n_buildSliceL (xs := ([(⟨([104] : Str), (10 : Int), (15 : Int), (10 : Int)⟩ : Ping)]).map Ping.av) rfl rfl rfl rfl rfl rfl <| bndE h fun v1 e1 h => r_callp rfl (hub_Repair_c e1) (CoL.refl _) rfl <| rM rfl rfl <| rX rfl rfl rfl <| rX rfl rfl rfl <| rA rfl rfl <| rA rfl rfl <| rN <| tS <| ATodo.cut (fun σ' => ∃ (c2 : Bool), L_hubbed_j1 c2 = some r ∧ σ' = ⟨15, [(0, .bool c2)], []⟩) ?_ ?_
  · refine tR <| rM rfl rfl <| ARun.qv (q_eql rfl rfl) rfl <| rM rfl rfl <| ARun.guard_dt rfl rfl rfl (fun hc => ?_) (fun hc => ?_)
    · rw [andTd hc] at h
      exact rM rfl rfl <| rY rfl rfl rfl <| ARun.qv (q_eql rfl rfl) rfl <| rT rfl rfl rfl <| rA rfl rfl <| rN <| ATodo.stop <| ImpX.lq [] ⟨decide (v1.1 = (15 : Int)), h, rfl⟩ rfl rfl
    · rw [andFd hc] at h
      exact rG rfl rfl rfl rfl <| rE rfl rfl rfl <| rA rfl rfl <| rN <| ATodo.stop <| ImpX.lq [] ⟨false, h, rfl⟩ rfl rfl
  · rintro σ' ⟨c2, h, rfl⟩
    unfold L_hubbed_j1 at h
    refine ATodo.ret <| ?_
    obtain rfl := Option.some.inj h
    exact ImpX.here ⟨_, .cons (.tmp _ _ rfl) .nil, rfl⟩

set_option maxHeartbeats 4000000 in
theorem Q_RepairOf_c [GI : GTab] {p0x0 : List Ping} {p1x0 : Str} {p2x0 : Int} {r : Int} (h : Q_RepairOf p0x0 p1x0 p2x0 = some r) : Pu Tryd.prog 50 [.list 4 (p0x0.map Ping.av), .str p1x0, I p2x0] (I r) := by
  unfold Q_RepairOf at h
  refine ACall.bodyN Tryd.func50 rfl Tryd.ntmps50 Tryd.results50 rfl rfl ?_
  refine tSR <| rA rfl rfl <| rN <| tSR <| rM rfl rfl <| rM rfl rfl <| bndE h fun v1 e1 h => r_callp rfl (Q_OffsetOf_c e1) (CoL.refl _) rfl <| rM rfl rfl <| rX rfl rfl rfl <| rX rfl rfl rfl <| n_alloc rfl rfl rfl rfl fun b2 => n_store_ptr rfl rfl rfl rfl .p0 rfl rfl <| rA rfl rfl <| rN <| tS <| tSR <| rM rfl rfl <| ARun.qv (q_not rfl) rfl <| rN <| ATodo.cond rfl (fun hc => ?_) (fun hc => ?_)
  · refine have h := iteT hc h; tSR <| rM rfl rfl <| rA rfl rfl <| rN <| ATodo.ret <| ?_
    obtain rfl := Option.some.inj h
    exact ImpX.here ⟨_, .cons (.tmp _ _ rfl) .nil, rfl⟩
  · refine have h := iteFb hc h; tK <| tSR <| rF rfl rfl rfl <| rL rfl rfl .p0 rfl rfl <| rF rfl rfl rfl <| rL rfl rfl .p0 rfl rfl <| ARun.qv (q_addw rfl rfl) rfl <| rA rfl rfl <| rN <| tSR <| rM rfl rfl <| ARun.qv (t_quo rfl rfl (by decide)) rfl <| rA rfl rfl <| rN <| tS <| tS <| ATodo.cut (fun σ' => ∃ (c3 : Bool), Q_RepairOf_j1 p2x0 v1 c3 = some r ∧ σ' = ⟨41, [(2, I p2x0), (10, I (w64 ((w64 (v1.1.Low + v1.1.High)).tdiv (2 : Int)))), (33, .bool c3)], []⟩) ?_ ?_
    · refine tR <| rM rfl rfl <| ARun.qv (q_lss rfl rfl) rfl <| rM rfl rfl <| ARun.guard_dt rfl rfl rfl (fun hc => ?_) (fun hc => ?_)
      · rw [andTd hc] at h
        exact rM rfl rfl <| rY rfl rfl rfl <| ARun.qv (q_rem rfl rfl (by decide)) rfl <| rY rfl rfl rfl <| ARun.qv (q_neq rfl rfl) rfl <| rT rfl rfl rfl <| rN <| ATodo.stop <| ImpX.lq [] ⟨decide (((w64 (v1.1.Low + v1.1.High)).tmod (2 : Int)) ≠ (0 : Int)), h, rfl⟩ rfl rfl
      · rw [andFd hc] at h
        exact rG rfl rfl rfl rfl <| rG rfl rfl rfl rfl <| rE rfl rfl rfl <| rN <| ATodo.stop <| ImpX.lq [] ⟨false, h, rfl⟩ rfl rfl
    · rintro σ' ⟨c3, h, rfl⟩
      unfold Q_RepairOf_j1 at h
      refine ATodo.cut (fun σ' => ∃ (n4 : Int), Q_RepairOf_j2 p2x0 n4 = some r ∧ σ' = ⟨41, [(2, I p2x0), (10, I n4)], []⟩) ?_ ?_
      · refine ATodo.cond rfl (fun hc => ?_) (fun hc => ?_)
        · exact have h := iteT hc h; tR <| rM rfl rfl <| ARun.qv (q_subw rfl rfl) rfl <| rA rfl rfl <| rN <| ATodo.stop <| ImpX.lq [] ⟨w64 ((w64 ((w64 (v1.1.Low + v1.1.High)).tdiv (2 : Int))) - (1 : Int)), h, rfl⟩ rfl rfl
        · exact have h := iteFb hc h; tK <| ATodo.stop <| ImpX.lq [] ⟨w64 ((w64 (v1.1.Low + v1.1.High)).tdiv (2 : Int)), h, rfl⟩ rfl rfl
      · rintro σ' ⟨n4, h, rfl⟩
        unfold Q_RepairOf_j2 at h
        refine tSR <| rM rfl rfl <| rM rfl rfl <| ARun.qv (q_subw rfl rfl) rfl <| ARun.qv (q_max rfl rfl) rfl <| ARun.qv (q_min rfl rfl) rfl <| rA rfl rfl <| rN <| ATodo.ret <| ?_
        obtain rfl := Option.some.inj h
        exact ImpX.here ⟨_, .cons (.tmp _ _ rfl) .nil, rfl⟩

set_option maxHeartbeats 4000000 in
theorem L_ClocksRepaired_c {p0x0 : List Int} {r : Bool} (h : L_ClocksRepaired p0x0 = some r) : Pu Tryd.prog 5 [.list 1 (p0x0.map I)] (.bool r) := by
  unfold L_ClocksRepaired at h
  refine ACall.bodyN Tryd.func5 rfl Tryd.ntmps5 Tryd.results5 rfl rfl ?_
  refine tSR <| rA rfl rfl <| rN <| tSR <| rM rfl rfl <| ARun.qv (n_build rfl rfl rfl rfl rfl) rfl <| n_box rfl rfl rfl rfl fun b1 => rA rfl rfl <| rN <| tSR <| rM rfl rfl <| bndE h fun v2 e1 h => t_call1 rfl (Stream_Pings_c e1) (CoL.refl _) (.cons .p0 .nil) (fun _ => rfl) rfl fun b3 => rM rfl rfl <| n_buildSliceL (xs := ([([104, 97] : Str), ([104, 97] : Str), ([104, 98] : Str), ([104, 99] : Str), ([65] : Str)]).map AV.str) rfl rfl rfl rfl rfl rfl <| bndE h fun v4 e2 h => t_call0 rfl (Stream_Some_c e2) (CoL.refl _) (.cons .p0 .nil) rfl rfl <| rM rfl rfl <| bndE h fun v5 e3 h => t_call0 rfl (Stream_Time_c e3) (CoL.refl _) (.cons .p0 .nil) rfl rfl <| rA rfl rfl <| rA rfl rfl <| rA rfl rfl <| rN <| tSR <| rM rfl rfl <| rM rfl rfl <| bndE h fun v6 e4 h => r_callpB rfl (hub_Offset_c e4) (.cons (CoB.arrT .p1) (.cons (.co (.refl _)) .nil)) rfl rfl <| rM rfl rfl <| rX rfl rfl rfl <| rX rfl rfl rfl <| rX rfl rfl rfl <| n_alloc rfl rfl rfl rfl fun b7 => n_store_ptr rfl rfl rfl rfl .p0 rfl rfl <| rA rfl rfl <| rA rfl rfl <| rN <| tSR <| rM rfl rfl <| rM rfl rfl <| rM rfl rfl <| bndE h fun v8 e5 h => r_callpB rfl (hub_Repair_c e5) (.cons (CoB.arrT .p2) (.cons (.co (.refl _)) (.cons (.co (.refl _)) .nil))) rfl rfl <| rM rfl rfl <| rX rfl rfl rfl <| rX rfl rfl rfl <| rA rfl rfl <| rA rfl rfl <| rN <| tSR <| rM rfl rfl <| bndE h fun v9 e6 h => r_callpB rfl (Q_PingsFault_c e6) (.cons (CoB.arrT .p2) .nil) rfl rfl <| rM rfl rfl <| bndE h fun v10 e7 h => r_callp rfl (Q_KeyFault_c e7) (CoL.refl _) rfl <| n_buildSliceL (xs := ([v9, v10] : List Int).map I) rfl rfl rfl rfl rfl rfl <| bndE h fun v11 e8 h => r_callp rfl (cmp_Or_Errno_c e8) (CoL.refl _) rfl <| rA rfl rfl <| rN <| tS <| tS <| ATodo.cut (fun σ' => ∃ (c12 : Bool), L_ClocksRepaired_j1 v2 v4 v5 v6 v8 v11 c12 = some r ∧ σ' = ⟨101, [(4, .sl 4 b3 0 v2.1.length), (5, .str v4.1), (6, I v5.1), (7, .ptr b7 0), (8, .bool v6.2.1), (10, I v8.1), (11, I v8.2), (12, I v11), (54, .bool c12)], [(b3, .arr 4 (v2.1.map Ping.av)), (b7, .cells [I v6.1.Low, I v6.1.High, I v6.1.Many])]⟩) ?_ ?_
  · refine tR <| rM rfl rfl <| bndE h fun v13 e9 h => r_callpB rfl (hub_CheckPings_c e9) (.cons (CoB.arrT .p2) .nil) rfl rfl <| rM rfl rfl <| bndE h fun v14 e10 h => r_callpB rfl (Q_PingsFault_c e10) (.cons (CoB.arrT .p2) .nil) rfl rfl <| ARun.qv (q_neq rfl rfl) rfl <| rM rfl rfl <| ARun.guard_df rfl rfl rfl (fun hc => ?_) (fun hc => ?_)
    · rw [orFd hc] at h
      exact rM rfl rfl <| rY rfl rfl rfl <| rM rfl rfl <| rY rfl rfl rfl <| ARun.qv (q_neq rfl rfl) rfl <| rE rfl rfl rfl <| rN <| ATodo.stop <| ImpX.lq [2, 0] ⟨decide (v6.2.2 ≠ v11), h, rfl⟩ rfl rfl
    · rw [orTd hc] at h
      exact rG rfl rfl rfl rfl <| rG rfl rfl rfl rfl <| rT rfl rfl rfl <| rN <| ATodo.stop <| ImpX.lq [2, 0] ⟨true, h, rfl⟩ rfl rfl
  · rintro σ' ⟨c12, h, rfl⟩
    unfold L_ClocksRepaired_j1 at h
    refine ATodo.cond rfl (fun hc => ?_) (fun hc => ?_)
    · refine have h := iteT hc h; tSR <| rA rfl rfl <| rN <| ATodo.ret <| ?_
      obtain rfl := Option.some.inj h
      exact ImpX.here ⟨_, .cons (.tmp _ _ rfl) .nil, rfl⟩
    · refine have h := iteFb hc h; tK <| tSR <| n_alloc rfl rfl rfl rfl fun b15 => rN <| tSR <| rA rfl rfl <| rN <| tS <| tSR <| rM rfl rfl <| ARun.qv (q_eql rfl rfl) rfl <| rN <| ATodo.cut (fun σ' => ∃ (n16 : Int) (n17 : Int) (n18 : Int) (c19 : Bool), L_ClocksRepaired_j2 v2 v4 v5 v6 v8 v11 n16 n17 n18 c19 = some r ∧ σ' = ⟨101, [(4, .sl 4 b3 0 v2.1.length), (5, .str v4.1), (6, I v5.1), (7, .ptr b7 0), (8, .bool v6.2.1), (10, I v8.1), (11, I v8.2), (12, I v11), (13, .ptr b15 0), (14, .bool c19)], [(b3, .arr 4 (v2.1.map Ping.av)), (b7, .cells [I v6.1.Low, I v6.1.High, I v6.1.Many]), (b15, .cells [I n16, I n17, I n18])]⟩) ?_ ?_
      · refine ATodo.cond_d rfl (fun hc => ?_) (fun hc => ?_)
        · exact have h := iteT hc h; tR <| rM rfl rfl <| rM rfl rfl <| bndE h fun v20 e11 h => r_callpB rfl (Q_OffsetOf_c e11) (.cons (CoB.arrT .p1) (.cons (.co (.refl _)) .nil)) rfl rfl <| rM rfl rfl <| rX rfl rfl rfl <| rX rfl rfl rfl <| n_store_ptr rfl rfl rfl rfl .p0 rfl rfl <| rA rfl rfl <| rN <| ATodo.stop <| ImpX.lq [1, 1, 0] ⟨v20.1.Low, v20.1.High, v20.1.Many, v20.2, h, rfl⟩ rfl rfl
        · exact have h := iteF hc h; tK <| ATodo.stop <| ImpX.lq [1, 1, 0] ⟨(0 : Int), (0 : Int), (0 : Int), false, h, rfl⟩ rfl rfl
      · rintro σ' ⟨n16, n17, n18, c19, h, rfl⟩
        unfold L_ClocksRepaired_j2 at h
        refine tS <| tS <| ATodo.cut (fun σ' => ∃ (c21 : Bool), L_ClocksRepaired_j3 v2 v4 v5 v8 v11 c21 = some r ∧ σ' = ⟨101, [(4, .sl 4 b3 0 v2.1.length), (5, .str v4.1), (6, I v5.1), (10, I v8.1), (11, I v8.2), (12, I v11), (70, .bool c21)], [(b3, .arr 4 (v2.1.map Ping.av))]⟩) ?_ ?_
        · refine tR <| ARun.qv (q_load_ptr_all rfl rfl .p1 rfl) rfl <| ARun.qv (q_load_ptr_all rfl rfl .p2 rfl) rfl <| ARun.qv (t_tne (g := Offset.av) (X := v6.1) (Y := (⟨n16, n17, n18⟩ : Offset)) rfl rfl rfl rfl rfl) rfl <| rM rfl rfl <| ARun.guard_df rfl rfl rfl (fun hc => ?_) (fun hc => ?_)
          · rw [orFd hc] at h
            exact rM rfl rfl <| rY rfl rfl rfl <| rM rfl rfl <| rY rfl rfl rfl <| ARun.qv (q_bne rfl rfl) rfl <| rE rfl rfl rfl <| rN <| ATodo.stop <| ImpX.lq [0] ⟨v6.2.1 != c19, h, rfl⟩ rfl rfl
          · rw [orTd hc] at h
            exact rG rfl rfl rfl rfl <| rG rfl rfl rfl rfl <| rT rfl rfl rfl <| rN <| ATodo.stop <| ImpX.lq [0] ⟨true, h, rfl⟩ rfl rfl
        · rintro σ' ⟨c21, h, rfl⟩
          unfold L_ClocksRepaired_j3 at h
          refine ATodo.cond rfl (fun hc => ?_) (fun hc => ?_)
          · refine have h := iteT hc h; tSR <| rA rfl rfl <| rN <| ATodo.ret <| ?_
            obtain rfl := Option.some.inj h
            exact ImpX.here ⟨_, .cons (.tmp _ _ rfl) .nil, rfl⟩
          · refine have h := iteFb hc h; tK <| tS <| tSR <| rM rfl rfl <| rM rfl rfl <| r_callp rfl (Q_MomentFault_c rfl) (CoL.refl _) rfl <| n_buildSliceL (xs := ([v11, (Q_MomentFault v5.1)] : List Int).map I) rfl rfl rfl rfl rfl rfl <| bndE h fun v22 e12 h => r_callp rfl (cmp_Or_Errno_c e12) (CoL.refl _) rfl <| rA rfl rfl <| rN <| tSR <| rM rfl rfl <| ARun.qv (q_neq rfl rfl) rfl <| rN <| ATodo.cond_d rfl (fun hc => ?_) (fun hc => ?_)
            · refine have h := iteT hc h; tS <| ATodo.cut (fun σ' => ∃ (c23 : Bool), L_ClocksRepaired_j4 c23 = some r ∧ σ' = ⟨101, [(2, .bool c23)], []⟩) ?_ ?_
              · refine tR <| rM rfl rfl <| rM rfl rfl <| ARun.qv (q_eql rfl rfl) rfl <| rM rfl rfl <| ARun.guard_dt rfl rfl rfl (fun hc => ?_) (fun hc => ?_)
                · refine have h := iteT hc h; rM rfl rfl <| rY rfl rfl rfl <| ARun.qv (q_eql rfl rfl) rfl <| rT rfl rfl rfl <| rM rfl rfl <| ARun.guard_dt rfl rfl rfl (fun hc => ?_) (fun hc => ?_)
                  · exact have h := iteT hc h; bndE h fun v24 e13 h => r_callp rfl (L_hubbed_c e13) (CoL.refl _) rfl <| rT rfl rfl rfl <| rA rfl rfl <| rN <| ATodo.stop <| ImpX.lq [] ⟨v24, h, rfl⟩ rfl rfl
                  · exact have h := iteF hc h; rE rfl rfl rfl <| rA rfl rfl <| rN <| ATodo.stop <| ImpX.lq [] ⟨false, h, rfl⟩ rfl rfl
                · exact have h := iteF hc h; rG rfl rfl rfl rfl <| rE rfl rfl rfl <| rM rfl rfl <| rG rfl rfl rfl rfl <| rE rfl rfl rfl <| rA rfl rfl <| rN <| ATodo.stop <| ImpX.lq [] ⟨false, h, rfl⟩ rfl rfl
              · rintro σ' ⟨c23, h, rfl⟩
                unfold L_ClocksRepaired_j4 at h
                refine ATodo.ret <| ?_
                obtain rfl := Option.some.inj h
                exact ImpX.here ⟨_, .cons (.tmp _ _ rfl) .nil, rfl⟩
            · refine have h := iteF hc h; tK <| tS <| ATodo.cut (fun σ' => ∃ (c25 : Bool), L_ClocksRepaired_j5 c25 = some r ∧ σ' = ⟨101, [(2, .bool c25)], []⟩) ?_ ?_
              · refine tR <| rM rfl rfl <| ARun.qv (q_eql rfl rfl) rfl <| rM rfl rfl <| ARun.guard_dt rfl rfl rfl (fun hc => ?_) (fun hc => ?_)
                · refine have h := iteT hc h; rM rfl rfl <| rY rfl rfl rfl <| rM rfl rfl <| rY rfl rfl rfl <| rM rfl rfl <| rY rfl rfl rfl <| rM rfl rfl <| rY rfl rfl rfl <| bndE h fun v26 e14 h => r_callpB rfl (Q_RepairOf_c e14) (.cons (CoB.arrT .p0) (.cons (.co (.refl _)) (.cons (.co (.refl _)) .nil))) rfl rfl <| rY rfl rfl rfl <| ARun.qv (q_eql rfl rfl) rfl <| rT rfl rfl rfl <| rM rfl rfl <| ARun.guard_dt rfl rfl rfl (fun hc => ?_) (fun hc => ?_)
                  · exact have h := iteT hc h; bndE h fun v27 e15 h => r_callp rfl (L_hubbed_c e15) (CoL.refl _) rfl <| rT rfl rfl rfl <| rA rfl rfl <| rN <| ATodo.stop <| ImpX.lq [] ⟨v27, h, rfl⟩ rfl rfl
                  · exact have h := iteF hc h; rE rfl rfl rfl <| rA rfl rfl <| rN <| ATodo.stop <| ImpX.lq [] ⟨false, h, rfl⟩ rfl rfl
                · exact have h := iteF hc h; rG rfl rfl rfl rfl <| rG rfl rfl rfl rfl <| rG rfl rfl rfl rfl <| rG rfl rfl rfl rfl <| rG rfl rfl rfl rfl <| rE rfl rfl rfl <| rM rfl rfl <| rG rfl rfl rfl rfl <| rE rfl rfl rfl <| rA rfl rfl <| rN <| ATodo.stop <| ImpX.lq [] ⟨false, h, rfl⟩ rfl rfl
              · rintro σ' ⟨c25, h, rfl⟩
                unfold L_ClocksRepaired_j5 at h
                refine ATodo.ret <| ?_
                obtain rfl := Option.some.inj h
                exact ImpX.here ⟨_, .cons (.tmp _ _ rfl) .nil, rfl⟩

end Go.Proofs.YtblakecmhjcdmaaDoor
