/- The code computes the plain functions: proofs written by shal.py. -/
import Derived.Test.YtblakecmhjcdmaaBukP
import Derived.Test.YtblakecmhjcdmaaLib
set_option maxRecDepth 100000
set_option linter.unusedVariables false
set_option linter.unusedSimpArgs false
namespace Go.Proofs.Ytblakecmhjcdmaa
open Go Go.Eng Go.Proofs Go.Beacon
attribute [local irreducible] ARun ATodo AQ QV ACall ImpX AWp AM
instance eqg29 : EqGd Try.prog 29 := ⟨by kernel_rfl⟩
instance eqt29 : EqTy Try.prog 29 2 Window.av := ⟨fun x y w S v u hv hu => by
  obtain ⟨vs, rfl, hl, ha⟩ := At.agg_inv hv
  obtain ⟨us, rfl, hl', ha'⟩ := At.agg_inv hu
  obtain ⟨v0, p0, q0⟩ := AtA.get hl ha (off := 0) rfl
  obtain ⟨u0, p0', q0'⟩ := AtA.get hl' ha' (off := 0) rfl
  obtain ⟨v1, p1, q1⟩ := AtA.get hl ha (off := 1) rfl
  obtain ⟨u1, p1', q1'⟩ := AtA.get hl' ha' (off := 1) rfl
  refine EqR.cast (EqR.struct Try.underlying29 (by kernel_rfl) (.cons (by decide) (part_one rfl p0) (part_one rfl p0') (EqR.up (EqTy.h (g := I) x.From y.From w S _ _ q0 q0') 0)  (.cons (by decide) (part_one rfl p1) (part_one rfl p1') (EqR.up (EqTy.h (g := I) x.To y.To w S _ _ q1 q1') 0) .nil))) ?_
  obtain ⟨_, _⟩ := x
  obtain ⟨_, _⟩ := y
  rw [Bool.eq_iff_iff]; simp [and_assoc]⟩
instance eqg43 : EqGd Try.prog 43 := ⟨by kernel_rfl⟩
instance eqt43 : EqTy Try.prog 43 3 Bucket.av := ⟨fun x y w S v u hv hu => by
  obtain ⟨vs, rfl, hl, ha⟩ := At.agg_inv hv
  obtain ⟨us, rfl, hl', ha'⟩ := At.agg_inv hu
  obtain ⟨v1, p1, q1⟩ := AtA.get hl ha (off := 2) rfl
  obtain ⟨u1, p1', q1'⟩ := AtA.get hl' ha' (off := 2) rfl
  obtain ⟨v2, p2, q2⟩ := AtA.get hl ha (off := 3) rfl
  obtain ⟨u2, p2', q2'⟩ := AtA.get hl' ha' (off := 3) rfl
  obtain ⟨v3, p3, q3⟩ := AtA.get hl ha (off := 4) rfl
  obtain ⟨u3, p3', q3'⟩ := AtA.get hl' ha' (off := 4) rfl
  obtain ⟨v4, p4, q4⟩ := AtA.get hl ha (off := 5) rfl
  obtain ⟨u4, p4', q4'⟩ := AtA.get hl' ha' (off := 5) rfl
  obtain ⟨v5, p5, q5⟩ := AtA.get hl ha (off := 6) rfl
  obtain ⟨u5, p5', q5'⟩ := AtA.get hl' ha' (off := 6) rfl
  obtain ⟨v6, p6, q6⟩ := AtA.get hl ha (off := 7) rfl
  obtain ⟨u6, p6', q6'⟩ := AtA.get hl' ha' (off := 7) rfl
  refine EqR.cast (EqR.struct Try.underlying43 (by kernel_rfl) (.cons (by decide) (part_agg rfl rfl) (part_agg rfl rfl) (EqR.up (EqTy.h (g := Window.av) x.Time y.Time w S _ _ (AtA.sub hl ha 0 2 (Nat.le_of_ble_eq_true rfl)) (AtA.sub hl' ha' 0 2 (Nat.le_of_ble_eq_true rfl))) 0)  (.cons (by decide) (part_one rfl p1) (part_one rfl p1') (EqR.up (EqTy.h (g := I) x.Count y.Count w S _ _ q1 q1') 1)  (.cons (by decide) (part_one rfl p2) (part_one rfl p2') (EqR.up (EqTy.h (g := I) x.Sum y.Sum w S _ _ q2 q2') 1)  (.cons (by decide) (part_one rfl p3) (part_one rfl p3') (EqR.up (EqTy.h (g := I) x.Min y.Min w S _ _ q3 q3') 1)  (.cons (by decide) (part_one rfl p4) (part_one rfl p4') (EqR.up (EqTy.h (g := I) x.Max y.Max w S _ _ q4 q4') 1)  (.cons (by decide) (part_one rfl p5) (part_one rfl p5') (EqR.up (EqTy.h (g := I) x.First y.First w S _ _ q5 q5') 1)  (.cons (by decide) (part_one rfl p6) (part_one rfl p6') (EqR.up (EqTy.h (g := I) x.Last y.Last w S _ _ q6 q6') 1) .nil)))))))) ?_
  obtain ⟨_, _, _, _, _, _, _⟩ := x
  obtain ⟨_, _, _, _, _, _, _⟩ := y
  rw [Bool.eq_iff_iff]; simp [and_assoc]⟩
instance eqg49 : EqGd Try.prog 49 := ⟨by kernel_rfl⟩
instance eqt49 : EqTy Try.prog 49 2 Fraction.av := ⟨fun x y w S v u hv hu => by
  obtain ⟨vs, rfl, hl, ha⟩ := At.agg_inv hv
  obtain ⟨us, rfl, hl', ha'⟩ := At.agg_inv hu
  obtain ⟨v0, p0, q0⟩ := AtA.get hl ha (off := 0) rfl
  obtain ⟨u0, p0', q0'⟩ := AtA.get hl' ha' (off := 0) rfl
  obtain ⟨v1, p1, q1⟩ := AtA.get hl ha (off := 1) rfl
  obtain ⟨u1, p1', q1'⟩ := AtA.get hl' ha' (off := 1) rfl
  refine EqR.cast (EqR.struct Try.underlying49 (by kernel_rfl) (.cons (by decide) (part_one rfl p0) (part_one rfl p0') (EqR.up (EqTy.h (g := I) x.Num y.Num w S _ _ q0 q0') 0)  (.cons (by decide) (part_one rfl p1) (part_one rfl p1') (EqR.up (EqTy.h (g := I) x.Den y.Den w S _ _ q1 q1') 0) .nil))) ?_
  obtain ⟨_, _⟩ := x
  obtain ⟨_, _⟩ := y
  rw [Bool.eq_iff_iff]; simp [and_assoc]⟩
set_option maxHeartbeats 4000000 in
theorem Below_c [GI : GTab] {p0x0 : Int} {p1x0 : Int} {r : Int} (h : Below p0x0 p1x0 = some r) : Pu Try.prog 51 [I p0x0, I p1x0] (I r) := by
  unfold Below at h
  refine ACall.bodyN Try.func51 rfl Try.ntmps51 Try.results51 rfl rfl ?_
  refine tSR <| rA rfl rfl <| rN <| tS <| tSR <| rM rfl rfl <| ARun.qv (q_lss rfl rfl) rfl <| rN <| ATodo.cond_d rfl (fun hc => ?_) (fun hc => ?_)
  · refine have h := iteT hc h; tSR <| rA rfl rfl <| rN <| ATodo.ret <| ?_
    obtain rfl := Option.some.inj h
    exact ImpX.here ⟨_, .cons (.tmp _ _ rfl) .nil, rfl⟩
  · refine have h := iteF hc h; tK <| tSR <| rM rfl rfl <| rM rfl rfl <| bndE h fun n1 e1 h => ARun.qv (t_remS rfl rfl e1) rfl <| rA rfl rfl <| rN <| tS <| tSR <| rM rfl rfl <| ARun.qv (q_lss rfl rfl) rfl <| rN <| ATodo.cut (fun σ' => ∃ (n2 : Int), Below_j1 n2 = some r ∧ σ' = ⟨16, [(0, I n2)], []⟩) ?_ ?_
    · refine ATodo.cond_d rfl (fun hc => ?_) (fun hc => ?_)
      · exact have h := iteT hc h; tR <| rM rfl rfl <| rM rfl rfl <| ARun.qv (q_addw rfl rfl) rfl <| rA rfl rfl <| rN <| ATodo.stop <| ImpX.lq [] ⟨w64 (n1 + p1x0), h, rfl⟩ rfl rfl
      · exact have h := iteF hc h; tK <| ATodo.stop <| ImpX.lq [] ⟨n1, h, rfl⟩ rfl rfl
    · rintro σ' ⟨n2, h, rfl⟩
      unfold Below_j1 at h
      refine tSR <| rM rfl rfl <| rA rfl rfl <| rN <| ATodo.ret <| ?_
      obtain rfl := Option.some.inj h
      exact ImpX.here ⟨_, .cons (.tmp _ _ rfl) .nil, rfl⟩

set_option maxHeartbeats 4000000 in
theorem Stream_Next_c [GI : GTab] {b_0 : Bk} {p0x0 : Fleetmake_Stream} {p1x0 : Int} {r : Int × Fleetmake_Stream} (h : Stream_Next p0x0 p1x0 = some r) : ACall Try.prog 28 [.ptr b_0 0, I p1x0] [(b_0, .cells [.list 1 (p0x0.L.map I), I p0x0.at_])] (T0 ([(b_0, .cells [.list 1 (r.2.L.map I), I r.2.at_])]) (I r.1)) := by
  unfold Stream_Next at h
  refine ACall.lessH ?_
  refine ACall.bodyN Try.func28 rfl Try.ntmps28 Try.results28 rfl rfl ?_
  refine tSR <| rA rfl rfl <| rN <| tSR <| rM rfl rfl <| ARun.qv (q_nilCheck_ptr rfl) rfl <| rF rfl rfl rfl <| rL rfl rfl .p0 rfl rfl <| ARun.qv (q_addw rfl rfl) rfl <| ARun.qv (q_nilCheck_ptr rfl) rfl <| rF rfl rfl rfl <| n_store_ptr rfl rfl rfl rfl .p0 rfl rfl <| rN <| tS <| tSR <| rM rfl rfl <| ARun.qv (q_nilCheck_ptr rfl) rfl <| rF rfl rfl rfl <| rL rfl rfl .p0 rfl rfl <| ARun.qv (t_len rfl) rfl <| ARun.qv (q_eql rfl rfl) rfl <| rN <| ATodo.cond_d rfl (fun hc => ?_) (fun hc => ?_)
  · refine have h := iteT hc h; tSR <| rM rfl rfl <| ARun.qv (q_nilCheck_ptr rfl) rfl <| rF rfl rfl rfl <| rL rfl rfl .p0 rfl rfl <| ARun.qv (q_mulw rfl rfl) rfl <| rM rfl rfl <| bndE h fun v1 e1 h => r_callp rfl (Below_c e1) (CoL.refl _) rfl <| rA rfl rfl <| rN <| ATodo.ret <| ?_
    obtain rfl := Option.some.inj h
    exact ImpX.here ⟨_, .cons (.tmp _ _ rfl) .nil, _, .cons .p0 .nil, ⟨rfl, rfl⟩⟩
  · refine have h := iteF hc h; tK <| tS <| ATodo.regionM (id := 4) (A := [0, 1, 3, 7, 15, 0, 32, 96, 224, 480, 1023, 2047]) 12 mixed rfl (by kernel_rfl) (by kernel_rfl) <| AM.qv (q_move rfl) rfl <| AM.qv (q_nilCheck_ptr rfl) rfl <| AM.qv (n_field_ptr rfl rfl) rfl <| AM.qv (q_load_ptr rfl rfl .p0 rfl) rfl <| AM.qv (q_subw rfl rfl) rfl <| AM.qv (q_move rfl) rfl <| AM.qv (q_nilCheck_ptr rfl) rfl <| AM.qv (n_field_ptr rfl rfl) rfl <| AM.qv (q_load_ptr rfl rfl .p0 rfl) rfl <| AM.qv (t_len rfl) rfl <| bndE h fun n2 e2 h => AM.qv (t_remS rfl rfl e2) rfl <| AM.qv (q_assign rfl) rfl <| AM.nil <| rN <| tS <| ATodo.regionM (id := 5) (A := [0, 1, 3, 7, 15, 0, 32, 96, 224, 480, 1023, 2047]) 12 mixed rfl (by kernel_rfl) (by kernel_rfl) <| AM.qv (q_move rfl) rfl <| AM.qv (q_nilCheck_ptr rfl) rfl <| AM.qv (n_field_ptr rfl rfl) rfl <| AM.qv (q_load_ptr rfl rfl .p0 rfl) rfl <| AM.qv (q_subw rfl rfl) rfl <| AM.qv (q_move rfl) rfl <| AM.qv (q_nilCheck_ptr rfl) rfl <| AM.qv (n_field_ptr rfl rfl) rfl <| AM.qv (q_load_ptr rfl rfl .p0 rfl) rfl <| AM.qv (t_len rfl) rfl <| bndE h fun n3 e3 h => AM.qv (t_quoS rfl rfl e3) rfl <| AM.qv (q_assign rfl) rfl <| AM.nil <| rN <| tSR <| rM rfl rfl <| ARun.qv (q_nilCheck_ptr rfl) rfl <| rF rfl rfl rfl <| rL rfl rfl .p0 rfl rfl <| rM rfl rfl <| bndE h fun v4 e4 h => ARun.qv (t_index rfl rfl rfl e4 rfl rfl) rfl <| ARun.qv (q_load_rptr rfl rfl rfl) rfl <| bndE h fun v5 e5 h => r_callp rfl (Below_c e5) (CoL.refl _) rfl <| rM rfl rfl <| rM rfl rfl <| ARun.qv (q_addw rfl rfl) rfl <| ARun.qv (q_mulw rfl rfl) rfl <| ARun.qv (q_addw rfl rfl) rfl <| rM rfl rfl <| bndE h fun v6 e6 h => r_callp rfl (Below_c e6) (CoL.refl _) rfl <| rA rfl rfl <| rN <| ATodo.ret <| ?_
    obtain rfl := Option.some.inj h
    exact ImpX.here ⟨_, .cons (.tmp _ _ rfl) .nil, _, .cons .p0 .nil, ⟨rfl, rfl⟩⟩

set_option maxHeartbeats 4000000 in
theorem Stream_Pick_c [GI : GTab] {b_0 : Bk} {p0x0 : Fleetmake_Stream} {p1x0 : List Int} {r : Int × Fleetmake_Stream} (h : Stream_Pick p0x0 p1x0 = some r) : ACall Try.prog 7 [.ptr b_0 0, .list 1 (p1x0.map I)] [(b_0, .cells [.list 1 (p0x0.L.map I), I p0x0.at_])] (T0 ([(b_0, .cells [.list 1 (r.2.L.map I), I r.2.at_])]) (I r.1)) := by
  unfold Stream_Pick at h
  refine ACall.lessH ?_
  refine ACall.bodyN Try.func7 rfl Try.ntmps7 Try.results7 rfl rfl ?_
  refine tSR <| rA rfl rfl <| rN <| tSR <| rM rfl rfl <| rM rfl rfl <| rM rfl rfl <| ARun.qv (t_len rfl) rfl <| bndE h fun v1 e1 h => t_call0 rfl (Stream_Next_c e1) (CoL.refl _) (.cons .p0 .nil) rfl rfl <| bndE h fun v2 e2 h => ARun.qv (t_index rfl rfl rfl e2 rfl rfl) rfl <| ARun.qv (q_load_rptr rfl rfl rfl) rfl <| rA rfl rfl <| rN <| ATodo.ret <| ?_
  obtain rfl := Option.some.inj h
  exact ImpX.here ⟨_, .cons (.tmp _ _ rfl) .nil, _, .cons .p0 .nil, ⟨rfl, rfl⟩⟩

set_option maxHeartbeats 4000000 in
theorem Stream_Range_c [GI : GTab] {b_0 : Bk} {p0x0 : Fleetmake_Stream} {p1x0 : Int} {p2x0 : Int} {r : Int × Fleetmake_Stream} (h : Stream_Range p0x0 p1x0 p2x0 = some r) : ACall Try.prog 50 [.ptr b_0 0, I p1x0, I p2x0] [(b_0, .cells [.list 1 (p0x0.L.map I), I p0x0.at_])] (T0 ([(b_0, .cells [.list 1 (r.2.L.map I), I r.2.at_])]) (I r.1)) := by
  unfold Stream_Range at h
  refine ACall.lessH ?_
  refine ACall.bodyN Try.func50 rfl Try.ntmps50 Try.results50 rfl rfl ?_
  refine tSR <| rA rfl rfl <| rN <| tS <| tSR <| rM rfl rfl <| rM rfl rfl <| ARun.qv (q_lss rfl rfl) rfl <| rN <| ATodo.cond_d rfl (fun hc => ?_) (fun hc => ?_)
  · refine have h := iteT hc h; tSR <| rM rfl rfl <| rA rfl rfl <| rN <| ATodo.ret <| ?_
    obtain rfl := Option.some.inj h
    exact ImpX.here ⟨_, .cons (.tmp _ _ rfl) .nil, _, .cons .p0 .nil, ⟨rfl, rfl⟩⟩
  · refine have h := iteF hc h; tK <| tSR <| rM rfl rfl <| rM rfl rfl <| rM rfl rfl <| rM rfl rfl <| ARun.qv (q_subw rfl rfl) rfl <| ARun.qv (q_addw rfl rfl) rfl <| bndE h fun v1 e1 h => t_call0 rfl (Stream_Next_c e1) (CoL.refl _) (.cons .p0 .nil) rfl rfl <| ARun.qv (q_addw rfl rfl) rfl <| rA rfl rfl <| rN <| ATodo.ret <| ?_
    obtain rfl := Option.some.inj h
    exact ImpX.here ⟨_, .cons (.tmp _ _ rfl) .nil, _, .cons .p0 .nil, ⟨rfl, rfl⟩⟩

set_option maxHeartbeats 4000000 in
theorem Stream_RightSeries_c [GI : GTab] {b_0 : Bk} {p0x0 : Fleetmake_Stream} {p1x0 : Int} {p2x0 : Int} {r : (List Sample) × Fleetmake_Stream} (h : Stream_RightSeries p0x0 p1x0 p2x0 = some r) : ACall Try.prog 27 [.ptr b_0 0, I p1x0, I p2x0] [(b_0, .cells [.list 1 (p0x0.L.map I), I p0x0.at_])] (T1 (fun d_0 => [(b_0, .cells [.list 1 (r.2.L.map I), I r.2.at_]), (d_0, .arr 4 (r.1.map Sample.av))]) (fun d_0 => .sl 4 d_0 0 r.1.length)) := by
  unfold Stream_RightSeries at h
  refine ACall.lessH ?_
  refine ACall.bodyN Try.func27 rfl Try.ntmps27 Try.results27 rfl rfl ?_
  refine tSR <| rA rfl rfl <| rN <| tSR <| rA rfl rfl <| rN <| tSR <| rA rfl rfl <| rN <| tS <| tSR <| rM rfl rfl <| rM rfl rfl <| bndE h fun v1 e1 h => t_call0 rfl (Stream_Range_c e1) (CoL.refl _) (.cons .p0 .nil) rfl rfl <| rM rfl rfl <| rN <| ATodo.block <| ATodo.loopI (fun x : (List Int) × Int × (List Sample) × Int × Int => Stream_RightSeries_b1 p2x0 v1 x.1 x.2.1 x.2.2.1 x.2.2.2.1 x.2.2.2.2) (fun x σ' => ∃ (b10 : Bk), σ' = ⟨31, [(0, .ptr b_0 0), (2, I p2x0), (7, .sl 4 b10 0 x.2.2.1.length), (8, I x.2.2.2.1), (11, I v1.1), (12, I x.2.2.2.2)], [(b_0, .cells [.list 1 (x.1.map I), I x.2.1]), (b10, .arr 4 (x.2.2.1.map Sample.av))]⟩) h ?_ ?_
  · exact ImpX.arr (s := 7) 4 rfl fun b14 => ImpX.lq [1, 0] ⟨b14, rfl⟩ rfl rfl
  · intro x z1 σ' J1 hmk h hJ1 hA1
    obtain ⟨l8, n9, l11, n12, n13⟩ := x
    obtain ⟨b10, rfl⟩ := hmk
    replace h : Stream_RightSeries_b1 p2x0 v1 l8 n9 l11 n12 n13 = some z1 := h
    unfold Stream_RightSeries_b1 at h
    refine tSR <| ARun.qv (q_lss rfl rfl) rfl <| rN <| tS <| ATodo.cond_d rfl (fun hc => ?_) (fun hc => ?_)
    · refine have h := iteT hc h; tK <| tS <| ATodo.block <| tSR <| rM rfl rfl <| rM rfl rfl <| n_buildSliceL (xs := ([(1 : Int), (1 : Int), (2 : Int), (5 : Int), (10 : Int), (10 : Int), (40 : Int), (127 : Int), (1000 : Int)]).map I) rfl rfl rfl rfl rfl rfl <| bndE h fun v15 e2 h => t_call0 rfl (Stream_Pick_c e2) (CoL.refl _) (.cons .p0 .nil) rfl rfl <| ARun.qv (q_addw rfl rfl) rfl <| rA rfl rfl <| rN <| tR <| rM rfl rfl <| rM rfl rfl <| rM rfl rfl <| rM rfl rfl <| n_buildSliceL (xs := ([(0 : Int), (1 : Int), (2 : Int), (5 : Int), (7 : Int), (9 : Int), (-3 : Int), (-70 : Int), (100 : Int), (1000 : Int), (5 : Int)]).map I) rfl rfl rfl rfl rfl rfl <| bndE h fun v16 e3 h => t_call0 rfl (Stream_Pick_c e3) (CoL.refl _) (.cons .p0 .nil) rfl rfl <| ARun.qv (q_max rfl rfl) rfl <| ARun.qv (n_build rfl rfl rfl rfl rfl) rfl <| n_buildSliceL (xs := ([(⟨([100] : Str), ([109] : Str), w64 (n12 + v15.1), max p2x0 v16.1⟩ : Sample)]).map Sample.av) rfl rfl rfl rfl rfl rfl <| bndE h fun l17 e4 h => t_append (g := Sample.av) rfl rfl rfl rfl rfl rfl rfl rfl (.list _) e4 (fun _ => .p1) rfl fun b18 => rA rfl rfl <| rN <| ATodo.blk <| tR <| ARun.qv (q_addw rfl rfl) rfl <| rM rfl rfl <| rN <| ATodo.stop <| ?_
      obtain rfl := Option.some.inj h
      exact hJ1 _ _ rfl <| ImpX.lq [0, 0] ⟨b18, rfl⟩ rfl rfl
    · refine have h := iteF hc h; ATodo.exit rfl <| have h := outL h hA1; tSR <| rM rfl rfl <| rA rfl rfl <| rN <| ATodo.ret <| ?_
      obtain rfl := Option.some.inj h
      exact ImpX.here ⟨_, .cons (.tmp _ _ rfl) .nil, _, .cons .p0 (.cons .p0 .nil), ⟨b10, rfl, rfl⟩⟩

set_option maxHeartbeats 4000000 in
theorem Stream_Flip_c [GI : GTab] {b_0 : Bk} {p0x0 : Fleetmake_Stream} {p1x0 : Int} {r : Bool × Fleetmake_Stream} (h : Stream_Flip p0x0 p1x0 = some r) : ACall Try.prog 16 [.ptr b_0 0, I p1x0] [(b_0, .cells [.list 1 (p0x0.L.map I), I p0x0.at_])] (T0 ([(b_0, .cells [.list 1 (r.2.L.map I), I r.2.at_])]) (.bool r.1)) := by
  unfold Stream_Flip at h
  refine ACall.lessH ?_
  refine ACall.bodyN Try.func16 rfl Try.ntmps16 Try.results16 rfl rfl ?_
  refine tSR <| rA rfl rfl <| rN <| tSR <| rM rfl rfl <| rM rfl rfl <| bndE h fun v1 e1 h => t_call0 rfl (Stream_Next_c e1) (CoL.refl _) (.cons .p0 .nil) rfl rfl <| ARun.qv (q_eql rfl rfl) rfl <| rA rfl rfl <| rN <| ATodo.ret <| ?_
  obtain rfl := Option.some.inj h
  exact ImpX.here ⟨_, .cons (.tmp _ _ rfl) .nil, _, .cons .p0 .nil, ⟨rfl, rfl⟩⟩

set_option maxHeartbeats 4000000 in
theorem Stream_Some_c [GI : GTab] {b_0 : Bk} {p0x0 : Fleetmake_Stream} {p1x0 : List Str} {r : Str × Fleetmake_Stream} (h : Stream_Some p0x0 p1x0 = some r) : ACall Try.prog 29 [.ptr b_0 0, .list 1 (p1x0.map AV.str)] [(b_0, .cells [.list 1 (p0x0.L.map I), I p0x0.at_])] (T0 ([(b_0, .cells [.list 1 (r.2.L.map I), I r.2.at_])]) (.str r.1)) := by
  unfold Stream_Some at h
  refine ACall.lessH ?_
  refine ACall.bodyN Try.func29 rfl Try.ntmps29 Try.results29 rfl rfl ?_
  refine tSR <| rA rfl rfl <| rN <| tSR <| rM rfl rfl <| rM rfl rfl <| rM rfl rfl <| ARun.qv (t_len rfl) rfl <| bndE h fun v1 e1 h => t_call0 rfl (Stream_Next_c e1) (CoL.refl _) (.cons .p0 .nil) rfl rfl <| bndE h fun v2 e2 h => ARun.qv (t_index rfl rfl rfl e2 rfl rfl) rfl <| ARun.qv (q_load_rptr rfl rfl rfl) rfl <| rA rfl rfl <| rN <| ATodo.ret <| ?_
  obtain rfl := Option.some.inj h
  exact ImpX.here ⟨_, .cons (.tmp _ _ rfl) .nil, _, .cons .p0 .nil, ⟨rfl, rfl⟩⟩

set_option maxHeartbeats 4000000 in
theorem Stream_Odd_c [GI : GTab] {b_0 : Bk} {p0x0 : Fleetmake_Stream} {p1x0 : Int} {p2x0 : Int} {r : Int × Fleetmake_Stream} (h : Stream_Odd p0x0 p1x0 p2x0 = some r) : ACall Try.prog 30 [.ptr b_0 0, I p1x0, I p2x0] [(b_0, .cells [.list 1 (p0x0.L.map I), I p0x0.at_])] (T0 ([(b_0, .cells [.list 1 (r.2.L.map I), I r.2.at_])]) (I r.1)) := by
  unfold Stream_Odd at h
  refine ACall.lessH ?_
  refine ACall.bodyN Try.func30 rfl Try.ntmps30 Try.results30 rfl rfl ?_
  refine tSR <| rA rfl rfl <| rN <| tS <| tSR <| rM rfl rfl <| bndE h fun v1 e1 h => t_call0 rfl (Stream_Flip_c e1) (CoL.refl _) (.cons .p0 .nil) rfl rfl <| rN <| ATodo.cond rfl (fun hc => ?_) (fun hc => ?_)
  · refine have h := iteT hc h; tSR <| rM rfl rfl <| rM rfl rfl <| ARun.qv (q_subw rfl rfl) rfl <| rM rfl rfl <| ARun.qv (q_addw rfl rfl) rfl <| rM rfl rfl <| rM rfl rfl <| n_buildSliceL (xs := ([w64 (p1x0 - (1 : Int)), w64 (p2x0 + (1 : Int)), p1x0, p2x0, (-1099511627776 : Int), (1099511627776 : Int)]).map I) rfl rfl rfl rfl rfl rfl <| bndE h fun v2 e2 h => t_call0 rfl (Stream_Pick_c e2) (CoL.refl _) (.cons .p0 .nil) rfl rfl <| rA rfl rfl <| rN <| ATodo.ret <| ?_
    obtain rfl := Option.some.inj h
    exact ImpX.here ⟨_, .cons (.tmp _ _ rfl) .nil, _, .cons .p0 .nil, ⟨rfl, rfl⟩⟩
  · refine have h := iteFb hc h; tK <| tSR <| rM rfl rfl <| rM rfl rfl <| rM rfl rfl <| bndE h fun v3 e3 h => t_call0 rfl (Stream_Range_c e3) (CoL.refl _) (.cons .p0 .nil) rfl rfl <| rA rfl rfl <| rN <| ATodo.ret <| ?_
    obtain rfl := Option.some.inj h
    exact ImpX.here ⟨_, .cons (.tmp _ _ rfl) .nil, _, .cons .p0 .nil, ⟨rfl, rfl⟩⟩

set_option maxHeartbeats 4000000 in
theorem Stream_Series_c [GI : GTab] {b_0 : Bk} {p0x0 : Fleetmake_Stream} {p1x0 : Int} {r : (List Sample) × Fleetmake_Stream} (h : Stream_Series p0x0 p1x0 = some r) : ACall Try.prog 5 [.ptr b_0 0, I p1x0] [(b_0, .cells [.list 1 (p0x0.L.map I), I p0x0.at_])] (T1 (fun d_0 => [(b_0, .cells [.list 1 (r.2.L.map I), I r.2.at_]), (d_0, .arr 4 (r.1.map Sample.av))]) (fun d_0 => .sl 4 d_0 0 r.1.length)) := by
  unfold Stream_Series at h
  refine ACall.lessH ?_
  refine ACall.bodyN Try.func5 rfl Try.ntmps5 Try.results5 rfl rfl ?_
  refine tSR <| rA rfl rfl <| rN <| tSR <| rM rfl rfl <| rM rfl rfl <| rM rfl rfl <| n_buildSliceL (xs := ([(0 : Int), (-100 : Int)]).map I) rfl rfl rfl rfl rfl rfl <| bndE h fun v1 e1 h => t_call0 rfl (Stream_Pick_c e1) (CoL.refl _) (.cons .p0 .nil) rfl rfl <| bndE h fun v2 e2 h => t_call1 rfl (Stream_RightSeries_c e2) (CoL.refl _) (.cons .p0 .nil) (fun _ => rfl) rfl fun b3 => rA rfl rfl <| rN <| tS <| tS <| ATodo.cut (fun σ' => ∃ (l4 : List Int) (n5 : Int) (c6 : Bool), Stream_Series_j1 v2 l4 n5 c6 = some r ∧ σ' = ⟨82, [(0, .ptr b_0 0), (5, .sl 4 b3 0 v2.1.length), (20, .bool c6)], [(b_0, .cells [.list 1 (l4.map I), I n5]), (b3, .arr 4 (v2.1.map Sample.av))]⟩) ?_ ?_
  · refine tR <| rM rfl rfl <| ARun.qv (t_len_sl rfl) rfl <| ARun.qv (q_gtr rfl rfl) rfl <| rM rfl rfl <| ARun.guard_dt rfl rfl rfl (fun hc => ?_) (fun hc => ?_)
    · exact have h := iteT hc h; rM rfl rfl <| rY rfl rfl rfl <| bndE h fun v7 e3 h => t_call0 rfl (Stream_Flip_c e3) (CoL.refl _) (.cons .p0 .nil) rfl rfl <| rT rfl rfl rfl <| rN <| ATodo.stop <| ImpX.lq [0, 0] ⟨v7.2.L, v7.2.at_, v7.1, h, rfl⟩ rfl rfl
    · exact have h := iteF hc h; rG rfl rfl rfl rfl <| rE rfl rfl rfl <| rN <| ATodo.stop <| ImpX.lq [0, 0] ⟨v2.2.L, v2.2.at_, false, h, rfl⟩ rfl rfl
  · rintro σ' ⟨l4, n5, c6, h, rfl⟩
    unfold Stream_Series_j1 at h
    refine ATodo.cut (fun σ' => ∃ (l8 : List Int) (n9 : Int) (l10 : List Sample), Stream_Series_j2 l8 n9 l10 = some r ∧ σ' = ⟨82, [(0, .ptr b_0 0), (5, .sl 4 b3 0 l10.length)], [(b_0, .cells [.list 1 (l8.map I), I n9]), (b3, .arr 4 (l10.map Sample.av))]⟩) ?_ ?_
    · refine ATodo.cond rfl (fun hc => ?_) (fun hc => ?_)
      · refine have h := iteT hc h; tSR <| rM rfl rfl <| rM rfl rfl <| rM rfl rfl <| ARun.qv (t_len_sl rfl) rfl <| bndE h fun v11 e4 h => t_call0 rfl (Stream_Next_c e4) (CoL.refl _) (.cons .p0 .nil) rfl rfl <| bndE h fun v12 e5 h => ARun.qv (t_index_sl rfl rfl rfl e5) rfl <| rA rfl rfl <| rN <| tSR <| rM rfl rfl <| bndE h fun v13 e6 h => t_call0 rfl (Stream_Next_c e6) (CoL.refl _) (.cons .p0 .nil) rfl rfl <| rN <| ATodo.block <| tSR <| ARun.qv (q_eql rfl rfl) rfl <| rA rfl rfl <| rN <| ATodo.cut (fun σ' => ∃ (l14 : List Int) (n15 : Int) (l16 : List Sample), Stream_Series_j3 l14 n15 l16 = some r ∧ σ' = ⟨82, [(0, .ptr b_0 0), (5, .sl 4 b3 0 l16.length)], [(b_0, .cells [.list 1 (l14.map I), I n15]), (b3, .arr 4 (l16.map Sample.av))]⟩) ?_ ?_
        · refine ATodo.cond_d rfl (fun hc => ?_) (fun hc => ?_)
          · exact have h := iteT hc h; tR <| rM rfl rfl <| rM rfl rfl <| n_buildSliceL (xs := ([([] : Str), ([101] : Str), ([65] : Str)]).map AV.str) rfl rfl rfl rfl rfl rfl <| bndE h fun v17 e7 h => t_call0 rfl (Stream_Some_c e7) (CoL.refl _) (.cons .p0 .nil) rfl rfl <| ARun.qv (q_nilCheck_aptr rfl) rfl <| ARun.qv (t_field_aptr rfl rfl) rfl <| t_store_aptr1 (g := Sample.av) (el' := (⟨v17.1, v12.Metric, v12.At, v12.Value⟩ : Sample)) rfl rfl rfl rfl e5 rfl .p1 rfl <| ARun.ghost <| ImpX.eqs (s := 5) (av' := .sl 4 b3 0 (v2.1.set v11.1.toNat (⟨v17.1, v12.Metric, v12.At, v12.Value⟩ : Sample)).length) rfl (by rw [List.length_set]) <| ImpX.here <| ARun.ghost <| ImpX.eqs (s := 21) (av' := .sl 4 b3 0 (v2.1.set v11.1.toNat (⟨v17.1, v12.Metric, v12.At, v12.Value⟩ : Sample)).length) rfl (by rw [List.length_set]) <| ImpX.here <| ARun.ghost <| ImpX.eqs (s := 23) (av' := .sl 4 b3 0 (v2.1.set v11.1.toNat (⟨v17.1, v12.Metric, v12.At, v12.Value⟩ : Sample)).length) rfl (by rw [List.length_set]) <| ImpX.here <| rN <| ATodo.stop <| ImpX.lq [0, 0] ⟨v17.2.L, v17.2.at_, v2.1.set v11.1.toNat (⟨v17.1, v12.Metric, v12.At, v12.Value⟩ : Sample), h, rfl⟩ rfl rfl
          · refine have h := iteF hc h; tSR <| ARun.qv (q_eql rfl rfl) rfl <| rA rfl rfl <| rN <| ATodo.cut (fun σ' => ∃ (l18 : List Int) (n19 : Int) (l20 : List Sample), Stream_Series_j4 l18 n19 l20 = some r ∧ σ' = ⟨82, [(0, .ptr b_0 0), (5, .sl 4 b3 0 l20.length)], [(b_0, .cells [.list 1 (l18.map I), I n19]), (b3, .arr 4 (l20.map Sample.av))]⟩) ?_ ?_
            · refine ATodo.cond_d rfl (fun hc => ?_) (fun hc => ?_)
              · exact have h := iteT hc h; tR <| rM rfl rfl <| rM rfl rfl <| n_buildSliceL (xs := ([([] : Str), ([110] : Str)]).map AV.str) rfl rfl rfl rfl rfl rfl <| bndE h fun v21 e8 h => t_call0 rfl (Stream_Some_c e8) (CoL.refl _) (.cons .p0 .nil) rfl rfl <| ARun.qv (q_nilCheck_aptr rfl) rfl <| ARun.qv (t_field_aptr rfl rfl) rfl <| t_store_aptr1 (g := Sample.av) (el' := (⟨v12.Device, v21.1, v12.At, v12.Value⟩ : Sample)) rfl rfl rfl rfl e5 rfl .p1 rfl <| ARun.ghost <| ImpX.eqs (s := 5) (av' := .sl 4 b3 0 (v2.1.set v11.1.toNat (⟨v12.Device, v21.1, v12.At, v12.Value⟩ : Sample)).length) rfl (by rw [List.length_set]) <| ImpX.here <| ARun.ghost <| ImpX.eqs (s := 21) (av' := .sl 4 b3 0 (v2.1.set v11.1.toNat (⟨v12.Device, v21.1, v12.At, v12.Value⟩ : Sample)).length) rfl (by rw [List.length_set]) <| ImpX.here <| ARun.ghost <| ImpX.eqs (s := 23) (av' := .sl 4 b3 0 (v2.1.set v11.1.toNat (⟨v12.Device, v21.1, v12.At, v12.Value⟩ : Sample)).length) rfl (by rw [List.length_set]) <| ImpX.here <| rN <| ATodo.stop <| ImpX.lq [0, 0] ⟨v21.2.L, v21.2.at_, v2.1.set v11.1.toNat (⟨v12.Device, v21.1, v12.At, v12.Value⟩ : Sample), h, rfl⟩ rfl rfl
              · refine have h := iteF hc h; tSR <| ARun.qv (q_eql rfl rfl) rfl <| rA rfl rfl <| rN <| ATodo.cut (fun σ' => ∃ (l22 : List Int) (n23 : Int) (l24 : List Sample), Stream_Series_j5 l22 n23 l24 = some r ∧ σ' = ⟨82, [(0, .ptr b_0 0), (5, .sl 4 b3 0 l24.length)], [(b_0, .cells [.list 1 (l22.map I), I n23]), (b3, .arr 4 (l24.map Sample.av))]⟩) ?_ ?_
                · refine ATodo.cond_d rfl (fun hc => ?_) (fun hc => ?_)
                  · exact have h := iteT hc h; tR <| rM rfl rfl <| rM rfl rfl <| bndE h fun v25 e9 h => t_call0 rfl (Stream_Odd_c e9) (CoL.refl _) (.cons .p0 .nil) rfl rfl <| ARun.qv (q_nilCheck_aptr rfl) rfl <| ARun.qv (t_field_aptr rfl rfl) rfl <| t_store_aptr1 (g := Sample.av) (el' := (⟨v12.Device, v12.Metric, v25.1, v12.Value⟩ : Sample)) rfl rfl rfl rfl e5 rfl .p1 rfl <| ARun.ghost <| ImpX.eqs (s := 5) (av' := .sl 4 b3 0 (v2.1.set v11.1.toNat (⟨v12.Device, v12.Metric, v25.1, v12.Value⟩ : Sample)).length) rfl (by rw [List.length_set]) <| ImpX.here <| ARun.ghost <| ImpX.eqs (s := 21) (av' := .sl 4 b3 0 (v2.1.set v11.1.toNat (⟨v12.Device, v12.Metric, v25.1, v12.Value⟩ : Sample)).length) rfl (by rw [List.length_set]) <| ImpX.here <| ARun.ghost <| ImpX.eqs (s := 23) (av' := .sl 4 b3 0 (v2.1.set v11.1.toNat (⟨v12.Device, v12.Metric, v25.1, v12.Value⟩ : Sample)).length) rfl (by rw [List.length_set]) <| ImpX.here <| rN <| ATodo.stop <| ImpX.lq [0, 0] ⟨v25.2.L, v25.2.at_, v2.1.set v11.1.toNat (⟨v12.Device, v12.Metric, v25.1, v12.Value⟩ : Sample), h, rfl⟩ rfl rfl
                  · exact have h := iteF hc h; tR <| rM rfl rfl <| rM rfl rfl <| bndE h fun v26 e10 h => t_call0 rfl (Stream_Odd_c e10) (CoL.refl _) (.cons .p0 .nil) rfl rfl <| ARun.qv (q_nilCheck_aptr rfl) rfl <| ARun.qv (t_field_aptr rfl rfl) rfl <| t_store_aptr1 (g := Sample.av) (el' := (⟨v12.Device, v12.Metric, v12.At, v26.1⟩ : Sample)) rfl rfl rfl rfl e5 rfl .p1 rfl <| ARun.ghost <| ImpX.eqs (s := 5) (av' := .sl 4 b3 0 (v2.1.set v11.1.toNat (⟨v12.Device, v12.Metric, v12.At, v26.1⟩ : Sample)).length) rfl (by rw [List.length_set]) <| ImpX.here <| ARun.ghost <| ImpX.eqs (s := 21) (av' := .sl 4 b3 0 (v2.1.set v11.1.toNat (⟨v12.Device, v12.Metric, v12.At, v26.1⟩ : Sample)).length) rfl (by rw [List.length_set]) <| ImpX.here <| ARun.ghost <| ImpX.eqs (s := 23) (av' := .sl 4 b3 0 (v2.1.set v11.1.toNat (⟨v12.Device, v12.Metric, v12.At, v26.1⟩ : Sample)).length) rfl (by rw [List.length_set]) <| ImpX.here <| rN <| ATodo.stop <| ImpX.lq [0, 0] ⟨v26.2.L, v26.2.at_, v2.1.set v11.1.toNat (⟨v12.Device, v12.Metric, v12.At, v26.1⟩ : Sample), h, rfl⟩ rfl rfl
                · rintro σ' ⟨l22, n23, l24, h, rfl⟩
                  unfold Stream_Series_j5 at h
                  exact ATodo.stop <| ImpX.lq [0, 0] ⟨l22, n23, l24, h, rfl⟩ rfl rfl
            · rintro σ' ⟨l18, n19, l20, h, rfl⟩
              unfold Stream_Series_j4 at h
              exact ATodo.stop <| ImpX.lq [0, 0] ⟨l18, n19, l20, h, rfl⟩ rfl rfl
        · rintro σ' ⟨l14, n15, l16, h, rfl⟩
          unfold Stream_Series_j3 at h
          exact ATodo.blk <| ATodo.stop <| ImpX.lq [0, 0] ⟨l14, n15, l16, h, rfl⟩ rfl rfl
      · exact have h := iteFb hc h; tK <| ATodo.stop <| ImpX.lq [0, 0] ⟨l4, n5, v2.1, h, rfl⟩ rfl rfl
    · rintro σ' ⟨l8, n9, l10, h, rfl⟩
      unfold Stream_Series_j2 at h
      refine tS <| tS <| ATodo.cut (fun σ' => ∃ (l27 : List Int) (n28 : Int) (c29 : Bool), Stream_Series_j6 l10 l27 n28 c29 = some r ∧ σ' = ⟨82, [(0, .ptr b_0 0), (5, .sl 4 b3 0 l10.length), (63, .bool c29)], [(b_0, .cells [.list 1 (l27.map I), I n28]), (b3, .arr 4 (l10.map Sample.av))]⟩) ?_ ?_
      · refine tR <| rM rfl rfl <| ARun.qv (t_len_sl rfl) rfl <| ARun.qv (q_gtr rfl rfl) rfl <| rM rfl rfl <| ARun.guard_dt rfl rfl rfl (fun hc => ?_) (fun hc => ?_)
        · exact have h := iteT hc h; rM rfl rfl <| rY rfl rfl rfl <| bndE h fun v30 e11 h => t_call0 rfl (Stream_Flip_c e11) (CoL.refl _) (.cons .p0 .nil) rfl rfl <| rT rfl rfl rfl <| rN <| ATodo.stop <| ImpX.lq [0, 0] ⟨v30.2.L, v30.2.at_, v30.1, h, rfl⟩ rfl rfl
        · exact have h := iteF hc h; rG rfl rfl rfl rfl <| rE rfl rfl rfl <| rN <| ATodo.stop <| ImpX.lq [0, 0] ⟨l8, n9, false, h, rfl⟩ rfl rfl
      · rintro σ' ⟨l27, n28, c29, h, rfl⟩
        unfold Stream_Series_j6 at h
        refine ATodo.cut (fun σ' => ∃ (l31 : List Int) (n32 : Int) (l33 : List Sample), Stream_Series_j7 l31 n32 l33 = some r ∧ σ' = ⟨82, [(5, .sl 4 b3 0 l33.length)], [(b_0, .cells [.list 1 (l31.map I), I n32]), (b3, .arr 4 (l33.map Sample.av))]⟩) ?_ ?_
        · refine ATodo.cond rfl (fun hc => ?_) (fun hc => ?_)
          · exact have h := iteT hc h; tSR <| rM rfl rfl <| rM rfl rfl <| ARun.qv (t_len_sl rfl) rfl <| ARun.qv (q_subw rfl rfl) rfl <| bndE h fun v34 e12 h => ARun.qv (t_index_sl rfl rfl rfl e12) rfl <| rA rfl rfl <| rN <| tR <| rM rfl rfl <| rM rfl rfl <| rM rfl rfl <| n_buildSliceL (xs := ([(345686399999 : Int), (3456000000 : Int), (950400000 : Int)]).map I) rfl rfl rfl rfl rfl rfl <| bndE h fun v35 e13 h => t_call0 rfl (Stream_Pick_c e13) (CoL.refl _) (.cons .p0 .nil) rfl rfl <| rM rfl rfl <| n_buildSliceL (xs := ([(1000000000 : Int), (-1000000000 : Int)]).map I) rfl rfl rfl rfl rfl rfl <| bndE h fun v36 e14 h => t_call0 rfl (Stream_Pick_c e14) (CoL.refl _) (.cons .p0 .nil) rfl rfl <| ARun.qv (q_nilCheck_aptr rfl) rfl <| ARun.qv (t_field_aptr rfl rfl) rfl <| t_store_aptr1 (g := Sample.av) (el' := (⟨v34.Device, v34.Metric, v35.1, v34.Value⟩ : Sample)) rfl rfl rfl rfl e12 rfl .p1 rfl <| ARun.ghost <| ImpX.eqs (s := 5) (av' := .sl 4 b3 0 (l10.set (w64 ((l10.length : Int) - (1 : Int))).toNat (⟨v34.Device, v34.Metric, v35.1, v34.Value⟩ : Sample)).length) rfl (by rw [List.length_set]) <| ImpX.here <| ARun.ghost <| ImpX.eqs (s := 64) (av' := .sl 4 b3 0 (l10.set (w64 ((l10.length : Int) - (1 : Int))).toNat (⟨v34.Device, v34.Metric, v35.1, v34.Value⟩ : Sample)).length) rfl (by rw [List.length_set]) <| ImpX.here <| ARun.ghost <| ImpX.eqs (s := 65) (av' := .sl 4 b3 0 (l10.set (w64 ((l10.length : Int) - (1 : Int))).toNat (⟨v34.Device, v34.Metric, v35.1, v34.Value⟩ : Sample)).length) rfl (by rw [List.length_set]) <| ImpX.here <| ARun.qv (q_nilCheck_aptr rfl) rfl <| ARun.qv (t_field_aptr rfl rfl) rfl <| t_store_aptr1 (g := Sample.av) (el' := (⟨v34.Device, v34.Metric, v35.1, v36.1⟩ : Sample)) rfl rfl rfl rfl (idx_set_self (v := (⟨v34.Device, v34.Metric, v35.1, v34.Value⟩ : Sample)) e12) rfl .p1 rfl <| ARun.ghost <| ImpX.eqs (s := 5) (av' := .sl 4 b3 0 ((l10.set (w64 ((l10.length : Int) - (1 : Int))).toNat (⟨v34.Device, v34.Metric, v35.1, v34.Value⟩ : Sample)).set (w64 ((l10.length : Int) - (1 : Int))).toNat (⟨v34.Device, v34.Metric, v35.1, v36.1⟩ : Sample)).length) rfl (by rw [List.length_set]) <| ImpX.here <| ARun.ghost <| ImpX.eqs (s := 64) (av' := .sl 4 b3 0 ((l10.set (w64 ((l10.length : Int) - (1 : Int))).toNat (⟨v34.Device, v34.Metric, v35.1, v34.Value⟩ : Sample)).set (w64 ((l10.length : Int) - (1 : Int))).toNat (⟨v34.Device, v34.Metric, v35.1, v36.1⟩ : Sample)).length) rfl (by rw [List.length_set]) <| ImpX.here <| ARun.ghost <| ImpX.eqs (s := 65) (av' := .sl 4 b3 0 ((l10.set (w64 ((l10.length : Int) - (1 : Int))).toNat (⟨v34.Device, v34.Metric, v35.1, v34.Value⟩ : Sample)).set (w64 ((l10.length : Int) - (1 : Int))).toNat (⟨v34.Device, v34.Metric, v35.1, v36.1⟩ : Sample)).length) rfl (by rw [List.length_set]) <| ImpX.here <| rN <| ATodo.stop <| ImpX.lq [0, 0] ⟨v36.2.L, v36.2.at_, (l10.set (w64 ((l10.length : Int) - (1 : Int))).toNat (⟨v34.Device, v34.Metric, v35.1, v34.Value⟩ : Sample)).set (w64 ((l10.length : Int) - (1 : Int))).toNat (⟨v34.Device, v34.Metric, v35.1, v36.1⟩ : Sample), h, rfl⟩ rfl rfl
          · exact have h := iteFb hc h; tK <| ATodo.stop <| ImpX.lq [0, 0] ⟨l27, n28, l10, h, rfl⟩ rfl rfl
        · rintro σ' ⟨l31, n32, l33, h, rfl⟩
          unfold Stream_Series_j7 at h
          refine tSR <| rM rfl rfl <| rA rfl rfl <| rN <| ATodo.ret <| ?_
          obtain rfl := Option.some.inj h
          exact ImpX.here ⟨_, .cons (.tmp _ _ rfl) .nil, _, .cons .p0 (.cons .p0 .nil), ⟨b3, rfl, rfl⟩⟩

set_option maxHeartbeats 4000000 in
theorem Stream_Frame_c [GI : GTab] {b_0 : Bk} {p0x0 : Fleetmake_Stream} {r : Window × Fleetmake_Stream} (h : Stream_Frame p0x0 = some r) : ACall Try.prog 6 [.ptr b_0 0] [(b_0, .cells [.list 1 (p0x0.L.map I), I p0x0.at_])] (T0 ([(b_0, .cells [.list 1 (r.2.L.map I), I r.2.at_])]) (.agg [I r.1.From, I r.1.To])) := by
  unfold Stream_Frame at h
  refine ACall.lessH ?_
  refine ACall.bodyN Try.func6 rfl Try.ntmps6 Try.results6 rfl rfl ?_
  refine tSR <| n_alloc rfl rfl rfl rfl fun b1 => rN <| tSR <| rM rfl rfl <| n_buildSliceL (xs := ([(0 : Int), (0 : Int), (1 : Int), (5 : Int), (10 : Int), (50 : Int)]).map I) rfl rfl rfl rfl rfl rfl <| bndE h fun v2 e1 h => t_call0 rfl (Stream_Pick_c e1) (CoL.refl _) (.cons .p1 .nil) rfl rfl <| rM rfl rfl <| n_buildSliceL (xs := ([(10 : Int), (50 : Int), (100 : Int), (300 : Int), (3000 : Int)]).map I) rfl rfl rfl rfl rfl rfl <| bndE h fun v3 e2 h => t_call0 rfl (Stream_Pick_c e2) (CoL.refl _) (.cons .p0 .nil) rfl rfl <| ARun.qv (n_build rfl rfl rfl rfl rfl) rfl <| n_alloc rfl rfl rfl rfl fun b4 => n_store_ptr rfl rfl rfl rfl .p0 rfl rfl <| rN <| tS <| tS <| ATodo.cut (fun σ' => ∃ (l5 : List Int) (n6 : Int) (c7 : Bool), Stream_Frame_j1 v2 v3 l5 n6 c7 = some r ∧ σ' = ⟨39, [(0, .ptr b_0 0), (2, .ptr b1 0), (3, .ptr b4 0), (20, .bool c7)], [(b_0, .cells [.list 1 (l5.map I), I n6]), (b1, .cells [I (0 : Int), I (0 : Int)]), (b4, .cells [I v2.1, I v3.1])]⟩) ?_ ?_
  · refine tR <| rF rfl rfl rfl <| rL rfl rfl .p0 rfl rfl <| rF rfl rfl rfl <| rL rfl rfl .p0 rfl rfl <| ARun.qv (q_gtr rfl rfl) rfl <| rM rfl rfl <| ARun.guard_dt rfl rfl rfl (fun hc => ?_) (fun hc => ?_)
    · exact have h := iteT hc h; rM rfl rfl <| rY rfl rfl rfl <| bndE h fun v8 e3 h => t_call0 rfl (Stream_Flip_c e3) (CoL.refl _) (.cons .p1 .nil) rfl rfl <| rY rfl rfl rfl <| ARun.qv (q_not rfl) rfl <| rT rfl rfl rfl <| rN <| ATodo.stop <| ImpX.lq [0, 1, 0] ⟨v8.2.L, v8.2.at_, !v8.1, h, rfl⟩ rfl rfl
    · exact have h := iteF hc h; rG rfl rfl rfl rfl <| rG rfl rfl rfl rfl <| rE rfl rfl rfl <| rN <| ATodo.stop <| ImpX.lq [1, 1, 0] ⟨v3.2.L, v3.2.at_, false, h, rfl⟩ rfl rfl
  · rintro σ' ⟨l5, n6, c7, h, rfl⟩
    unfold Stream_Frame_j1 at h
    refine ATodo.cut (fun σ' => ∃ (n9 : Int), Stream_Frame_j2 v3 l5 n6 n9 = some r ∧ σ' = ⟨39, [(0, .ptr b_0 0), (2, .ptr b1 0), (3, .ptr b4 0)], [(b_0, .cells [.list 1 (l5.map I), I n6]), (b1, .cells [I (0 : Int), I (0 : Int)]), (b4, .cells [I n9, I v3.1])]⟩) ?_ ?_
    · refine ATodo.cond rfl (fun hc => ?_) (fun hc => ?_)
      · exact have h := iteT hc h; tR <| rF rfl rfl rfl <| n_store_ptr rfl rfl rfl rfl .p2 rfl rfl <| rN <| ATodo.stop <| ImpX.lq [0, 0, 0] ⟨(0 : Int), h, rfl⟩ rfl rfl
      · exact have h := iteFb hc h; tK <| ATodo.stop <| ImpX.lq [0, 0, 0] ⟨v2.1, h, rfl⟩ rfl rfl
    · rintro σ' ⟨n9, h, rfl⟩
      unfold Stream_Frame_j2 at h
      refine tS <| tSR <| rM rfl rfl <| bndE h fun v10 e4 h => t_call0 rfl (Stream_Flip_c e4) (CoL.refl _) (.cons .p0 .nil) rfl rfl <| rN <| ATodo.cut (fun σ' => ∃ (l11 : List Int) (n12 : Int) (n13 : Int) (n14 : Int), Stream_Frame_j3 l11 n12 n13 n14 = some r ∧ σ' = ⟨39, [(0, .ptr b_0 0), (2, .ptr b1 0), (3, .ptr b4 0)], [(b_0, .cells [.list 1 (l11.map I), I n12]), (b1, .cells [I (0 : Int), I (0 : Int)]), (b4, .cells [I n13, I n14])]⟩) ?_ ?_
      · refine ATodo.cond rfl (fun hc => ?_) (fun hc => ?_)
        · exact have h := iteT hc h; tR <| rM rfl rfl <| bndE h fun v15 e5 h => t_call0 rfl (Stream_Odd_c e5) (CoL.refl _) (.cons .p0 .nil) rfl rfl <| rM rfl rfl <| bndE h fun v16 e6 h => t_call0 rfl (Stream_Odd_c e6) (CoL.refl _) (.cons .p0 .nil) rfl rfl <| ARun.qv (n_build rfl rfl rfl rfl rfl) rfl <| n_store_ptr rfl rfl rfl rfl .p2 rfl rfl <| rN <| ATodo.stop <| ImpX.lq [0, 0, 0] ⟨v16.2.L, v16.2.at_, v15.1, v16.1, h, rfl⟩ rfl rfl
        · exact have h := iteFb hc h; tK <| ATodo.stop <| ImpX.lq [0, 0, 0] ⟨v10.2.L, v10.2.at_, n9, v3.1, h, rfl⟩ rfl rfl
      · rintro σ' ⟨l11, n12, n13, n14, h, rfl⟩
        unfold Stream_Frame_j3 at h
        refine tS <| tSR <| rM rfl rfl <| bndE h fun v17 e7 h => t_call0 rfl (Stream_Flip_c e7) (CoL.refl _) (.cons .p0 .nil) rfl rfl <| rN <| ATodo.cut (fun σ' => ∃ (l18 : List Int) (n19 : Int) (n20 : Int) (n21 : Int), Stream_Frame_j4 l18 n19 n20 n21 = some r ∧ σ' = ⟨39, [(2, .ptr b1 0), (3, .ptr b4 0)], [(b_0, .cells [.list 1 (l18.map I), I n19]), (b1, .cells [I (0 : Int), I (0 : Int)]), (b4, .cells [I n20, I n21])]⟩) ?_ ?_
        · refine ATodo.cond rfl (fun hc => ?_) (fun hc => ?_)
          · exact have h := iteT hc h; tR <| rM rfl rfl <| n_buildSliceL (xs := ([(0 : Int), (5 : Int)]).map I) rfl rfl rfl rfl rfl rfl <| bndE h fun v22 e8 h => t_call0 rfl (Stream_Pick_c e8) (CoL.refl _) (.cons .p0 .nil) rfl rfl <| rM rfl rfl <| n_buildSliceL (xs := ([(345686400000 : Int), (345686400001 : Int), (7776000000 : Int), (7862400000 : Int)]).map I) rfl rfl rfl rfl rfl rfl <| bndE h fun v23 e9 h => t_call0 rfl (Stream_Pick_c e9) (CoL.refl _) (.cons .p0 .nil) rfl rfl <| ARun.qv (n_build rfl rfl rfl rfl rfl) rfl <| n_store_ptr rfl rfl rfl rfl .p2 rfl rfl <| rN <| ATodo.stop <| ImpX.lq [0, 0, 0] ⟨v23.2.L, v23.2.at_, v22.1, v23.1, h, rfl⟩ rfl rfl
          · exact have h := iteFb hc h; tK <| ATodo.stop <| ImpX.lq [0, 0, 0] ⟨v17.2.L, v17.2.at_, n13, n14, h, rfl⟩ rfl rfl
        · rintro σ' ⟨l18, n19, n20, n21, h, rfl⟩
          unfold Stream_Frame_j4 at h
          refine tSR <| ARun.qv (q_load_ptr_all rfl rfl .p2 rfl) rfl <| n_store_ptr rfl rfl rfl rfl .p1 rfl rfl <| rN <| ATodo.ret <| ?_
          obtain rfl := Option.some.inj h
          exact ImpX.here ⟨_, .cons (.all _ _ _ _ _ _ rfl .p1 TUnder.h TInfo.h rfl rfl) .nil, _, .cons .p0 .nil, ⟨rfl, rfl⟩⟩

set_option maxHeartbeats 4000000 in
theorem base_Key_c [GI : GTab] {p0x0 : Str} {r : Bool} (h : base_Key p0x0 = some r) : Pu Try.prog 78 [.str p0x0] (.bool r) := by
  unfold base_Key at h
  refine ACall.bodyN Try.func78 rfl Try.ntmps78 Try.results78 rfl rfl ?_
  refine tSR <| rA rfl rfl <| rN <| tS <| tS <| ATodo.cut (fun σ' => ∃ (c1 : Bool), base_Key_j1 p0x0 c1 = some r ∧ σ' = ⟨54, [(0, .str p0x0), (21, .bool c1)], []⟩) ?_ ?_
  · refine tR <| rM rfl rfl <| ARun.qv (q_seq rfl rfl) rfl <| rM rfl rfl <| ARun.guard_df rfl rfl rfl (fun hc => ?_) (fun hc => ?_)
    · refine have h := iteF hc h; rM rfl rfl <| rY rfl rfl rfl <| ARun.qv (q_len_str rfl) rfl <| rY rfl rfl rfl <| ARun.qv (q_gtr rfl rfl) rfl <| rE rfl rfl rfl <| rM rfl rfl <| ARun.guard_df rfl rfl rfl (fun hc => ?_) (fun hc => ?_)
      · refine have h := iteF hc h; rM rfl rfl <| rY rfl rfl rfl <| bndE h fun c2 e1 h => ARun.qv (t_index_str rfl rfl e1) rfl <| rY rfl rfl rfl <| ARun.qv (q_lss rfl rfl) rfl <| rE rfl rfl rfl <| rM rfl rfl <| ARun.guard_df rfl rfl rfl (fun hc => ?_) (fun hc => ?_)
        · exact have h := iteF hc h; rM rfl rfl <| rY rfl rfl rfl <| bndE h fun c3 e2 h => ARun.qv (t_index_str rfl rfl e2) rfl <| rY rfl rfl rfl <| ARun.qv (q_gtr rfl rfl) rfl <| rE rfl rfl rfl <| rN <| ATodo.stop <| ImpX.lq [] ⟨decide ((122 : Int) < (c3.toNat : Int)), h, rfl⟩ rfl rfl
        · exact have h := iteT hc h; rG rfl rfl rfl rfl <| rG rfl rfl rfl rfl <| rT rfl rfl rfl <| rN <| ATodo.stop <| ImpX.lq [] ⟨true, h, rfl⟩ rfl rfl
      · exact have h := iteT hc h; rG rfl rfl rfl rfl <| rG rfl rfl rfl rfl <| rT rfl rfl rfl <| rM rfl rfl <| rG rfl rfl rfl rfl <| rG rfl rfl rfl rfl <| rG rfl rfl rfl rfl <| rT rfl rfl rfl <| rN <| ATodo.stop <| ImpX.lq [] ⟨true, h, rfl⟩ rfl rfl
    · exact have h := iteT hc h; rG rfl rfl rfl rfl <| rG rfl rfl rfl rfl <| rT rfl rfl rfl <| rM rfl rfl <| rG rfl rfl rfl rfl <| rG rfl rfl rfl rfl <| rG rfl rfl rfl rfl <| rT rfl rfl rfl <| rM rfl rfl <| rG rfl rfl rfl rfl <| rG rfl rfl rfl rfl <| rG rfl rfl rfl rfl <| rT rfl rfl rfl <| rN <| ATodo.stop <| ImpX.lq [] ⟨true, h, rfl⟩ rfl rfl
  · rintro σ' ⟨c1, h, rfl⟩
    unfold base_Key_j1 at h
    refine ATodo.cond rfl (fun hc => ?_) (fun hc => ?_)
    · refine have h := iteT hc h; tSR <| rA rfl rfl <| rN <| ATodo.ret <| ?_
      obtain rfl := Option.some.inj h
      exact ImpX.here ⟨_, .cons (.tmp _ _ rfl) .nil, rfl⟩
    · refine have h := iteFb hc h; tK <| tS <| tSR <| rM rfl rfl <| ARun.qv (q_len_str rfl) rfl <| rM rfl rfl <| rN <| ATodo.block <| ATodo.loopI (fun x : Int => base_Key_b1 p0x0 x) (fun x σ' => σ' = ⟨54, [(0, .str p0x0), (23, I (p0x0.length : Int)), (24, I x)], []⟩) h ?_ ?_
      · exact ImpX.lq [] rfl rfl rfl
      · intro n5 z1 σ' J1 hmk h hJ1 hA1
        obtain rfl := hmk
        replace h : base_Key_b1 p0x0 n5 = some z1 := h
        unfold base_Key_b1 at h
        refine tSR <| ARun.qv (q_lss rfl rfl) rfl <| rN <| tS <| ATodo.cond_d rfl (fun hc => ?_) (fun hc => ?_)
        · refine have h := iteT hc h; tK <| tS <| ATodo.block <| tSR <| rM rfl rfl <| rA rfl rfl <| rN <| tSR <| rM rfl rfl <| rM rfl rfl <| bndE h fun c6 e3 h => ARun.qv (t_index_str rfl rfl e3) rfl <| rA rfl rfl <| rN <| tS <| ATodo.cut (fun σ' => ∃ (c7 : Bool), base_Key_j2 n5 c7 = some z1 ∧ σ' = ⟨54, [(0, .str p0x0), (23, I (p0x0.length : Int)), (24, I n5), (52, .bool c7)], []⟩) ?_ ?_
          · refine tR <| rM rfl rfl <| ARun.qv (q_geq rfl rfl) rfl <| rM rfl rfl <| ARun.guard_dt rfl rfl rfl (fun hc => ?_) (fun hc => ?_)
            · rw [if_pos hc] at h
              refine rM rfl rfl <| rY rfl rfl rfl <| ARun.qv (q_leq rfl rfl) rfl <| rT rfl rfl rfl <| rM rfl rfl <| ARun.guard_df rfl rfl rfl (fun hc => ?_) (fun hc => ?_)
              · rw [if_neg hc] at h
                refine rM rfl rfl <| rY rfl rfl rfl <| ARun.qv (q_geq rfl rfl) rfl <| rY rfl rfl rfl <| rM rfl rfl <| ARun.guard_dt rfl rfl rfl (fun hc => ?_) (fun hc => ?_)
                · rw [if_pos hc] at h
                  refine rM rfl rfl <| rY rfl rfl rfl <| ARun.qv (q_leq rfl rfl) rfl <| rY rfl rfl rfl <| rT rfl rfl rfl <| rE rfl rfl rfl <| rM rfl rfl <| ARun.guard_df rfl rfl rfl (fun hc => ?_) (fun hc => ?_)
                  · rw [if_neg hc] at h
                    refine rM rfl rfl <| rY rfl rfl rfl <| ARun.qv (q_eql rfl rfl) rfl <| rE rfl rfl rfl <| rM rfl rfl <| ARun.guard_df rfl rfl rfl (fun hc => ?_) (fun hc => ?_)
                    · rw [if_neg hc] at h
                      exact rM rfl rfl <| rY rfl rfl rfl <| ARun.qv (q_eql rfl rfl) rfl <| rE rfl rfl rfl <| ARun.qv (q_not_d rfl) rfl <| rN <| ATodo.stop <| ImpX.lq [] ⟨decide (¬ ((c6.toNat : Int) = (95 : Int))), h, rfl⟩ rfl rfl
                    · rw [if_pos hc] at h
                      exact rG rfl rfl rfl rfl <| rT rfl rfl rfl <| ARun.qv (q_not rfl) rfl <| rN <| ATodo.stop <| ImpX.lq [] ⟨!true, h, rfl⟩ rfl rfl
                  · rw [if_pos hc] at h
                    exact rG rfl rfl rfl rfl <| rT rfl rfl rfl <| rM rfl rfl <| rG rfl rfl rfl rfl <| rG rfl rfl rfl rfl <| rT rfl rfl rfl <| ARun.qv (q_not rfl) rfl <| rN <| ATodo.stop <| ImpX.lq [] ⟨!true, h, rfl⟩ rfl rfl
                · rw [if_neg hc] at h
                  refine rG rfl rfl rfl rfl <| rY rfl rfl rfl <| rE rfl rfl rfl <| rE rfl rfl rfl <| rM rfl rfl <| rY rfl rfl rfl <| rM rfl rfl <| rY rfl rfl rfl <| ARun.qv (q_eql rfl rfl) rfl <| rE rfl rfl rfl <| rM rfl rfl <| ARun.guard_df rfl rfl rfl (fun hc => ?_) (fun hc => ?_)
                  · rw [if_neg hc] at h
                    exact rM rfl rfl <| rY rfl rfl rfl <| ARun.qv (q_eql rfl rfl) rfl <| rE rfl rfl rfl <| ARun.qv (q_not_d rfl) rfl <| rN <| ATodo.stop <| ImpX.lq [] ⟨decide (¬ ((c6.toNat : Int) = (95 : Int))), h, rfl⟩ rfl rfl
                  · rw [if_pos hc] at h
                    exact rG rfl rfl rfl rfl <| rT rfl rfl rfl <| ARun.qv (q_not rfl) rfl <| rN <| ATodo.stop <| ImpX.lq [] ⟨!true, h, rfl⟩ rfl rfl
              · rw [if_pos hc] at h
                exact rG rfl rfl rfl rfl <| rG rfl rfl rfl rfl <| ARun.guard_und rfl rfl rfl <| ARun.guard_und rfl rfl rfl <| rG rfl rfl rfl rfl <| rT rfl rfl rfl <| rM rfl rfl <| rG rfl rfl rfl rfl <| rG rfl rfl rfl rfl <| rT rfl rfl rfl <| rM rfl rfl <| rG rfl rfl rfl rfl <| rG rfl rfl rfl rfl <| rT rfl rfl rfl <| ARun.qv (q_not rfl) rfl <| rN <| ATodo.stop <| ImpX.lq [] ⟨!true, h, rfl⟩ rfl rfl
            · rw [if_neg hc] at h
              refine rG rfl rfl rfl rfl <| rE rfl rfl rfl <| rM rfl rfl <| rY rfl rfl rfl <| rM rfl rfl <| rY rfl rfl rfl <| ARun.qv (q_geq rfl rfl) rfl <| rY rfl rfl rfl <| rM rfl rfl <| ARun.guard_dt rfl rfl rfl (fun hc => ?_) (fun hc => ?_)
              · rw [if_pos hc] at h
                refine rM rfl rfl <| rY rfl rfl rfl <| ARun.qv (q_leq rfl rfl) rfl <| rY rfl rfl rfl <| rT rfl rfl rfl <| rE rfl rfl rfl <| rM rfl rfl <| ARun.guard_df rfl rfl rfl (fun hc => ?_) (fun hc => ?_)
                · rw [if_neg hc] at h
                  refine rM rfl rfl <| rY rfl rfl rfl <| ARun.qv (q_eql rfl rfl) rfl <| rE rfl rfl rfl <| rM rfl rfl <| ARun.guard_df rfl rfl rfl (fun hc => ?_) (fun hc => ?_)
                  · rw [if_neg hc] at h
                    exact rM rfl rfl <| rY rfl rfl rfl <| ARun.qv (q_eql rfl rfl) rfl <| rE rfl rfl rfl <| ARun.qv (q_not_d rfl) rfl <| rN <| ATodo.stop <| ImpX.lq [] ⟨decide (¬ ((c6.toNat : Int) = (95 : Int))), h, rfl⟩ rfl rfl
                  · rw [if_pos hc] at h
                    exact rG rfl rfl rfl rfl <| rT rfl rfl rfl <| ARun.qv (q_not rfl) rfl <| rN <| ATodo.stop <| ImpX.lq [] ⟨!true, h, rfl⟩ rfl rfl
                · rw [if_pos hc] at h
                  exact rG rfl rfl rfl rfl <| rT rfl rfl rfl <| rM rfl rfl <| rG rfl rfl rfl rfl <| rG rfl rfl rfl rfl <| rT rfl rfl rfl <| ARun.qv (q_not rfl) rfl <| rN <| ATodo.stop <| ImpX.lq [] ⟨!true, h, rfl⟩ rfl rfl
              · rw [if_neg hc] at h
                refine rG rfl rfl rfl rfl <| rY rfl rfl rfl <| rE rfl rfl rfl <| rE rfl rfl rfl <| rM rfl rfl <| rY rfl rfl rfl <| rM rfl rfl <| rY rfl rfl rfl <| ARun.qv (q_eql rfl rfl) rfl <| rE rfl rfl rfl <| rM rfl rfl <| ARun.guard_df rfl rfl rfl (fun hc => ?_) (fun hc => ?_)
                · rw [if_neg hc] at h
                  exact rM rfl rfl <| rY rfl rfl rfl <| ARun.qv (q_eql rfl rfl) rfl <| rE rfl rfl rfl <| ARun.qv (q_not_d rfl) rfl <| rN <| ATodo.stop <| ImpX.lq [] ⟨decide (¬ ((c6.toNat : Int) = (95 : Int))), h, rfl⟩ rfl rfl
                · rw [if_pos hc] at h
                  exact rG rfl rfl rfl rfl <| rT rfl rfl rfl <| ARun.qv (q_not rfl) rfl <| rN <| ATodo.stop <| ImpX.lq [] ⟨!true, h, rfl⟩ rfl rfl
          · rintro σ' ⟨c7, h, rfl⟩
            unfold base_Key_j2 at h
            refine ATodo.cond rfl (fun hc => ?_) (fun hc => ?_)
            · refine have h := iteT hc h; tSR <| rA rfl rfl <| rN <| ATodo.ret <| have h := outL h hA1; ?_
              obtain rfl := Option.some.inj h
              exact ImpX.here ⟨_, .cons (.tmp _ _ rfl) .nil, rfl⟩
            · refine have h := iteFb hc h; tK <| ATodo.blk <| tR <| ARun.qv (q_addw rfl rfl) rfl <| rM rfl rfl <| rN <| ATodo.stop <| ?_
              obtain rfl := Option.some.inj h
              exact hJ1 _ _ rfl <| ImpX.lq [] rfl rfl rfl
        · refine have h := iteF hc h; ATodo.exit rfl <| have h := outL h hA1; tSR <| rA rfl rfl <| rN <| ATodo.ret <| ?_
          obtain rfl := Option.some.inj h
          exact ImpX.here ⟨_, .cons (.tmp _ _ rfl) .nil, rfl⟩

set_option maxHeartbeats 4000000 in
theorem base_Out_c [GI : GTab] {p0x0 : Int} {p1x0 : Int} {p2x0 : Int} {r : Bool} (h : base_Out p0x0 p1x0 p2x0 = r) : Pu Try.prog 32 [I p0x0, I p1x0, I p2x0] (.bool r) := by
  unfold base_Out at h
  refine ACall.bodyN Try.func32 rfl Try.ntmps32 Try.results32 rfl rfl ?_
  refine tSR <| rA rfl rfl <| rN <| tS <| ATodo.cut (fun σ' => ∃ (c1 : Bool), base_Out_j1 c1 = r ∧ σ' = ⟨15, [(6, .bool c1)], []⟩) ?_ ?_
  · refine tR <| rM rfl rfl <| rM rfl rfl <| ARun.qv (q_lss rfl rfl) rfl <| rM rfl rfl <| ARun.guard_df rfl rfl rfl (fun hc => ?_) (fun hc => ?_)
    · rw [orFd hc] at h
      exact rM rfl rfl <| rY rfl rfl rfl <| rM rfl rfl <| rY rfl rfl rfl <| ARun.qv (q_gtr rfl rfl) rfl <| rE rfl rfl rfl <| rA rfl rfl <| rN <| ATodo.stop <| ImpX.lq [] ⟨decide (p2x0 < p0x0), h, rfl⟩ rfl rfl
    · rw [orTd hc] at h
      exact rG rfl rfl rfl rfl <| rG rfl rfl rfl rfl <| rT rfl rfl rfl <| rA rfl rfl <| rN <| ATodo.stop <| ImpX.lq [] ⟨true, h, rfl⟩ rfl rfl
  · rintro σ' ⟨c1, h, rfl⟩
    unfold base_Out_j1 at h
    refine ATodo.ret <| ?_
    obtain rfl := h
    exact ImpX.here ⟨_, .cons (.tmp _ _ rfl) .nil, rfl⟩

set_option maxHeartbeats 4000000 in
theorem base_Moment_c [GI : GTab] {p0x0 : Int} {r : Bool} (h : base_Moment p0x0 = r) : Pu Try.prog 79 [I p0x0] (.bool r) := by
  unfold base_Moment at h
  refine ACall.bodyN Try.func79 rfl Try.ntmps79 Try.results79 rfl rfl ?_
  refine tSR <| rA rfl rfl <| rN <| tSR <| rM rfl rfl <| r_callp rfl (base_Out_c rfl) (CoL.refl _) rfl <| ARun.qv (q_not rfl) rfl <| rA rfl rfl <| rN <| ATodo.ret <| ?_
  obtain rfl := h
  exact ImpX.here ⟨_, .cons (.tmp _ _ rfl) .nil, rfl⟩

set_option maxHeartbeats 4000000 in
theorem cmp_isNaN_int_c [GI : GTab] {p0x0 : Int} {r : Bool} (h : cmp_isNaN_int p0x0 = r) : Pu Try.prog 104 [I p0x0] (.bool r) := by
  unfold cmp_isNaN_int at h
  refine ACall.bodyN Try.func104 rfl Try.ntmps104 Try.results104 rfl rfl ?_
  refine tSR <| rA rfl rfl <| rN <| tSR <| rM rfl rfl <| rM rfl rfl <| ARun.qv (q_neq rfl rfl) rfl <| rA rfl rfl <| rN <| ATodo.ret <| ?_
  obtain rfl := h
  exact ImpX.here ⟨_, .cons (.tmp _ _ rfl) .nil, rfl⟩

set_option maxHeartbeats 4000000 in
theorem cmp_Compare_int_c [GI : GTab] {p0x0 : Int} {p1x0 : Int} {r : Int} (h : cmp_Compare_int p0x0 p1x0 = r) : Pu Try.prog 95 [I p0x0, I p1x0] (I r) := by
  unfold cmp_Compare_int at h
  refine ACall.bodyN Try.func95 rfl Try.ntmps95 Try.results95 rfl rfl ?_
  refine tSR <| rA rfl rfl <| rN <| tSR <| rM rfl rfl <| r_callp rfl (cmp_isNaN_int_c rfl) (CoL.refl _) rfl <| rA rfl rfl <| rN <| tSR <| rM rfl rfl <| r_callp rfl (cmp_isNaN_int_c rfl) (CoL.refl _) rfl <| rA rfl rfl <| rN <| tS <| tSR <| rM rfl rfl <| rN <| ATodo.cond rfl (fun hc => ?_) (fun hc => ?_)
  · refine have h := iteT hc h; tS <| tSR <| rM rfl rfl <| rN <| ATodo.cond rfl (fun hc => ?_) (fun hc => ?_)
    · refine have h := iteT hc h; tSR <| rA rfl rfl <| rN <| ATodo.ret <| ?_
      obtain rfl := h
      exact ImpX.here ⟨_, .cons (.tmp _ _ rfl) .nil, rfl⟩
    · refine have h := iteFb hc h; tK <| tSR <| rA rfl rfl <| rN <| ATodo.ret <| ?_
      obtain rfl := h
      exact ImpX.here ⟨_, .cons (.tmp _ _ rfl) .nil, rfl⟩
  · refine have h := iteFb hc h; tK <| tS <| tSR <| rM rfl rfl <| rN <| ATodo.cond rfl (fun hc => ?_) (fun hc => ?_)
    · refine have h := iteT hc h; tSR <| rA rfl rfl <| rN <| ATodo.ret <| ?_
      obtain rfl := h
      exact ImpX.here ⟨_, .cons (.tmp _ _ rfl) .nil, rfl⟩
    · refine have h := iteFb hc h; tK <| tS <| tSR <| rM rfl rfl <| rM rfl rfl <| ARun.qv (q_lss rfl rfl) rfl <| rN <| ATodo.cond_d rfl (fun hc => ?_) (fun hc => ?_)
      · refine have h := iteT hc h; tSR <| rA rfl rfl <| rN <| ATodo.ret <| ?_
        obtain rfl := h
        exact ImpX.here ⟨_, .cons (.tmp _ _ rfl) .nil, rfl⟩
      · refine have h := iteF hc h; tK <| tS <| tSR <| rM rfl rfl <| rM rfl rfl <| ARun.qv (q_gtr rfl rfl) rfl <| rN <| ATodo.cond_d rfl (fun hc => ?_) (fun hc => ?_)
        · refine have h := iteT hc h; tSR <| rA rfl rfl <| rN <| ATodo.ret <| ?_
          obtain rfl := h
          exact ImpX.here ⟨_, .cons (.tmp _ _ rfl) .nil, rfl⟩
        · refine have h := iteF hc h; tK <| tSR <| rA rfl rfl <| rN <| ATodo.ret <| ?_
          obtain rfl := h
          exact ImpX.here ⟨_, .cons (.tmp _ _ rfl) .nil, rfl⟩

set_option maxHeartbeats 4000000 in
theorem cmp_Or_int_c [GI : GTab] {p0x0 : List Int} {r : Int} (h : cmp_Or_int p0x0 = some r) : Pu Try.prog 93 [.list 1 (p0x0.map I)] (I r) := by
  unfold cmp_Or_int at h
  refine ACall.bodyN Try.func93 rfl Try.ntmps93 Try.results93 rfl rfl ?_
  refine tSR <| rA rfl rfl <| rN <| tSR <| rA rfl rfl <| rN <| tS <| tSR <| rM rfl rfl <| ARun.qv (t_len rfl) rfl <| rM rfl rfl <| rN <| ATodo.block <| ATodo.loopI (fun x : Int => cmp_Or_int_b1 p0x0 x) (fun x σ' => σ' = ⟨18, [(3, I (0 : Int)), (6, .list 1 (p0x0.map I)), (7, I (p0x0.length : Int)), (8, I x)], []⟩) h ?_ ?_
  · exact ImpX.lq [] rfl rfl rfl
  · intro n2 z1 σ' J1 hmk h hJ1 hA1
    obtain rfl := hmk
    replace h : cmp_Or_int_b1 p0x0 n2 = some z1 := h
    unfold cmp_Or_int_b1 at h
    refine tSR <| ARun.qv (q_lss rfl rfl) rfl <| rN <| tS <| ATodo.cond_d rfl (fun hc => ?_) (fun hc => ?_)
    · refine have h := iteT hc h; tK <| tS <| ATodo.block <| tSR <| bndE h fun v3 e1 h => ARun.qv (t_index rfl rfl rfl e1 rfl rfl) rfl <| ARun.qv (q_load_rptr rfl rfl rfl) rfl <| rA rfl rfl <| rN <| tSR <| rM rfl rfl <| rM rfl rfl <| ARun.qv (q_neq rfl rfl) rfl <| rN <| ATodo.cond_d rfl (fun hc => ?_) (fun hc => ?_)
      · refine have h := iteT hc h; tSR <| rM rfl rfl <| rA rfl rfl <| rN <| ATodo.ret <| have h := outL h hA1; ?_
        obtain rfl := Option.some.inj h
        exact ImpX.here ⟨_, .cons (.tmp _ _ rfl) .nil, rfl⟩
      · refine have h := iteF hc h; tK <| ATodo.blk <| tR <| ARun.qv (q_addw rfl rfl) rfl <| rM rfl rfl <| rN <| ATodo.stop <| ?_
        obtain rfl := Option.some.inj h
        exact hJ1 _ _ rfl <| ImpX.lq [] rfl rfl rfl
    · refine have h := iteF hc h; ATodo.exit rfl <| have h := outL h hA1; tSR <| rM rfl rfl <| rA rfl rfl <| rN <| ATodo.ret <| ?_
      obtain rfl := Option.some.inj h
      exact ImpX.here ⟨_, .cons (.tmp _ _ rfl) .nil, rfl⟩

set_option maxHeartbeats 4000000 in
theorem series_byDevice_c [GI : GTab] {p0x0 : Sample} {p1x0 : Sample} {r : Int} (h : series_byDevice p0x0 p1x0 = some r) : Pu Try.prog 80 [.agg [.str p0x0.Device, .str p0x0.Metric, I p0x0.At, I p0x0.Value], .agg [.str p1x0.Device, .str p1x0.Metric, I p1x0.At, I p1x0.Value]] (I r) := by
  unfold series_byDevice at h
  refine ACall.bodyN Try.func80 rfl Try.ntmps80 Try.results80 rfl rfl ?_
  refine tSR <| n_box rfl rfl rfl rfl fun b1 => n_box rfl rfl rfl rfl fun b2 => rA rfl rfl <| rN <| tS <| ATodo.regionM (id := 1) (A := [0, 1, 0, 4, 15, 0, 32, 0, 128, 511, 0, 1024, 0, 4096, 16383, 32767, 65535, 131071]) 18 mixed rfl (by kernel_rfl) (by kernel_rfl) <| AM.qv (n_field_ptr rfl rfl) rfl <| AM.qv (q_load_ptr rfl rfl .p1 rfl) rfl <| AM.qv (n_field_ptr rfl rfl) rfl <| AM.qv (q_load_ptr rfl rfl .p0 rfl) rfl <| AM.callp rfl (strings_Compare_c rfl) (CoL.refl _) rfl <| AM.qv (n_field_ptr rfl rfl) rfl <| AM.qv (q_load_ptr rfl rfl .p1 rfl) rfl <| AM.qv (n_field_ptr rfl rfl) rfl <| AM.qv (q_load_ptr rfl rfl .p0 rfl) rfl <| AM.callp rfl (strings_Compare_c rfl) (CoL.refl _) rfl <| AM.qv (n_field_ptr rfl rfl) rfl <| AM.qv (q_load_ptr rfl rfl .p1 rfl) rfl <| AM.qv (n_field_ptr rfl rfl) rfl <| AM.qv (q_load_ptr rfl rfl .p0 rfl) rfl <| AM.callp rfl (cmp_Compare_int_c rfl) (CoL.refl _) rfl <| AM.buildSliceL (xs := ([(Lib.compareBytes p0x0.Device p1x0.Device), (Lib.compareBytes p0x0.Metric p1x0.Metric), (cmp_Compare_int p0x0.At p1x0.At)] : List Int).map I) rfl rfl rfl rfl rfl rfl <| bndE h fun v3 e1 h => AM.callp rfl (cmp_Or_int_c e1) (CoL.refl _) rfl <| AM.qv (q_assign rfl) rfl <| AM.nil <| rN <| ATodo.ret <| ?_
  obtain rfl := Option.some.inj h
  exact ImpX.here ⟨_, .cons (.tmp _ _ rfl) .nil, rfl⟩

set_option maxHeartbeats 4000000 in
theorem series_Check_c [GI : GTab] {p0x0 : List Sample} {r : Int} (h : series_Check p0x0 = some r) : Pu Try.prog 70 [.list 4 (p0x0.map Sample.av)] (I r) := by
  unfold series_Check at h
  refine ACall.bodyN Try.func70 rfl Try.ntmps70 Try.results70 rfl rfl ?_
  refine tSR <| rA rfl rfl <| rN <| tS <| tSR <| rM rfl rfl <| ARun.qv (t_len rfl) rfl <| ARun.qv (q_gtr rfl rfl) rfl <| rN <| ATodo.cond_d rfl (fun hc => ?_) (fun hc => ?_)
  · refine have h := iteT hc h; tSR <| rA rfl rfl <| rN <| ATodo.ret <| ?_
    obtain rfl := Option.some.inj h
    exact ImpX.here ⟨_, .cons (.tmp _ _ rfl) .nil, rfl⟩
  · refine have h := iteF hc h; tK <| tS <| tSR <| rM rfl rfl <| ARun.qv (t_len rfl) rfl <| rM rfl rfl <| rN <| ATodo.block <| ATodo.loopI (fun x : Int => series_Check_b1 p0x0 x) (fun x σ' => σ' = ⟨50, [(0, .list 4 (p0x0.map Sample.av)), (8, .list 4 (p0x0.map Sample.av)), (9, I (p0x0.length : Int)), (10, I x)], []⟩) h ?_ ?_
    · exact ImpX.lq [] rfl rfl rfl
    · intro n2 z1 σ' J1 hmk h hJ1 hA1
      obtain rfl := hmk
      replace h : series_Check_b1 p0x0 n2 = some z1 := h
      unfold series_Check_b1 at h
      refine tSR <| ARun.qv (q_lss rfl rfl) rfl <| rN <| tS <| ATodo.cond_d rfl (fun hc => ?_) (fun hc => ?_)
      · refine have h := iteT hc h; tK <| tS <| ATodo.block <| tSR <| rM rfl rfl <| bndE h fun v3 e1 h => ARun.qv (t_index rfl rfl rfl e1 rfl rfl) rfl <| ARun.qv (q_load_rptr_agg rfl rfl rfl) rfl <| n_alloc rfl rfl rfl rfl fun b4 => rA rfl rfl <| n_store_ptr rfl rfl rfl rfl .p0 rfl rfl <| rN <| ATodo.block <| tS <| ATodo.cut (fun σ' => ∃ (c5 : Bool), series_Check_j1 p0x0 n2 v3 c5 = some z1 ∧ σ' = ⟨50, [(0, .list 4 (p0x0.map Sample.av)), (3, I n2), (4, .ptr b4 0), (8, .list 4 (p0x0.map Sample.av)), (9, I (p0x0.length : Int)), (10, I n2), (15, .bool c5)], [(b4, .cells [.str v3.Device, .str v3.Metric, I v3.At, I v3.Value])]⟩) ?_ ?_
        · refine tR <| rF rfl rfl rfl <| rL rfl rfl .p0 rfl rfl <| bndE h fun v6 e2 h => r_callp rfl (base_Key_c e2) (CoL.refl _) rfl <| ARun.qv (q_not rfl) rfl <| rM rfl rfl <| ARun.guard rfl rfl rfl (fun hc => ?_) (fun hc => ?_)
          · exact have h := iteFb hc h; rF rfl rfl rfl <| rY rfl rfl rfl <| rL rfl rfl .p0 rfl rfl <| rY rfl rfl rfl <| bndE h fun v7 e3 h => r_callp rfl (base_Key_c e3) (CoL.refl _) rfl <| rY rfl rfl rfl <| ARun.qv (q_not rfl) rfl <| rE rfl rfl rfl <| rA rfl rfl <| rN <| ATodo.stop <| ImpX.lq [0] ⟨!v7, h, rfl⟩ rfl rfl
          · exact have h := iteT hc h; rG rfl rfl rfl rfl <| rG rfl rfl rfl rfl <| rG rfl rfl rfl rfl <| rT rfl rfl rfl <| rA rfl rfl <| rN <| ATodo.stop <| ImpX.lq [0] ⟨true, h, rfl⟩ rfl rfl
        · rintro σ' ⟨c5, h, rfl⟩
          unfold series_Check_j1 at h
          refine ATodo.cond rfl (fun hc => ?_) (fun hc => ?_)
          · refine have h := iteT hc h; tSR <| rA rfl rfl <| rN <| ATodo.ret <| have h := outL h hA1; ?_
            obtain rfl := Option.some.inj h
            exact ImpX.here ⟨_, .cons (.tmp _ _ rfl) .nil, rfl⟩
          · refine have h := iteFb hc h; tS <| ATodo.cut (fun σ' => ∃ (c8 : Bool), series_Check_j2 p0x0 n2 v3 c8 = some z1 ∧ σ' = ⟨50, [(0, .list 4 (p0x0.map Sample.av)), (3, I n2), (4, .ptr b4 0), (8, .list 4 (p0x0.map Sample.av)), (9, I (p0x0.length : Int)), (10, I n2), (26, .bool c8)], [(b4, .cells [.str v3.Device, .str v3.Metric, I v3.At, I v3.Value])]⟩) ?_ ?_
            · refine tR <| rF rfl rfl rfl <| rL rfl rfl .p0 rfl rfl <| r_callp rfl (base_Moment_c rfl) (CoL.refl _) rfl <| ARun.qv (q_not rfl) rfl <| rM rfl rfl <| ARun.guard rfl rfl rfl (fun hc => ?_) (fun hc => ?_)
              · rw [orFb hc] at h
                exact rF rfl rfl rfl <| rY rfl rfl rfl <| rL rfl rfl .p0 rfl rfl <| rY rfl rfl rfl <| r_callp rfl (base_Out_c rfl) (CoL.refl _) rfl <| rE rfl rfl rfl <| rA rfl rfl <| rN <| ATodo.stop <| ImpX.lq [0] ⟨(base_Out v3.Value (-1000000000 : Int) (1000000000 : Int)), h, rfl⟩ rfl rfl
              · rw [orTb hc] at h
                exact rG rfl rfl rfl rfl <| rG rfl rfl rfl rfl <| rT rfl rfl rfl <| rA rfl rfl <| rN <| ATodo.stop <| ImpX.lq [0] ⟨true, h, rfl⟩ rfl rfl
            · rintro σ' ⟨c8, h, rfl⟩
              unfold series_Check_j2 at h
              refine ATodo.cond rfl (fun hc => ?_) (fun hc => ?_)
              · refine have h := iteT hc h; tSR <| rA rfl rfl <| rN <| ATodo.ret <| have h := outL h hA1; ?_
                obtain rfl := Option.some.inj h
                exact ImpX.here ⟨_, .cons (.tmp _ _ rfl) .nil, rfl⟩
              · refine have h := iteFb hc h; tS <| ATodo.cut (fun σ' => ∃ (c9 : Bool), series_Check_j3 n2 c9 = some z1 ∧ σ' = ⟨50, [(0, .list 4 (p0x0.map Sample.av)), (8, .list 4 (p0x0.map Sample.av)), (9, I (p0x0.length : Int)), (10, I n2), (36, .bool c9)], []⟩) ?_ ?_
                · refine ATodo.regionM (id := 10) (A := [0, 1, 3, 7, 7, 7, 39, 119, 247, 511, 1023, 2047, 4095]) 13 mixed rfl (by kernel_rfl) (by kernel_rfl) <| AM.qv (q_move rfl) rfl <| AM.qv (q_gtr rfl rfl) rfl <| AM.qv (q_move rfl) rfl <| AM.guard_dt rfl rfl rfl (fun hc => ?_) (fun hc => ?_)
                  · exact have h := iteT hc h; AM.qv (q_load_ptr_all rfl rfl .p0 rfl) rfl <| AM.guard_yes rfl rfl rfl <| AM.qv (q_move rfl) rfl <| AM.guard_yes rfl rfl rfl <| AM.qv (q_move rfl) rfl <| AM.guard_yes rfl rfl rfl <| AM.qv (q_subw rfl rfl) rfl <| AM.guard_yes rfl rfl rfl <| bndE h fun v10 e4 h => AM.qv (t_index rfl rfl rfl e4 rfl rfl) rfl <| AM.guard_yes rfl rfl rfl <| AM.qv (q_load_rptr_agg rfl rfl rfl) rfl <| AM.guard_yes rfl rfl rfl <| bndE h fun v11 e5 h => AM.callp rfl (series_byDevice_c e5) (CoL.refl _) rfl <| AM.guard_yes rfl rfl rfl <| AM.qv (q_leq rfl rfl) rfl <| AM.qv (q_pick_t rfl rfl) rfl <| AM.qv (q_assign rfl) rfl <| AM.nil <| rN <| ATodo.stop <| ImpX.lq [] ⟨decide (v11 ≤ (0 : Int)), h, rfl⟩ rfl rfl
                  · exact have h := iteF hc h; AM.guard_no rfl rfl rfl rfl <| AM.guard_no rfl rfl rfl rfl <| AM.guard_no rfl rfl rfl rfl <| AM.guard_no rfl rfl rfl rfl <| AM.guard_no rfl rfl rfl rfl <| AM.guard_no rfl rfl rfl rfl <| AM.guard_no rfl rfl rfl rfl <| AM.qv (q_pick_f rfl rfl) rfl <| AM.qv (q_assign rfl) rfl <| AM.nil <| rN <| ATodo.stop <| ImpX.lq [] ⟨false, h, rfl⟩ rfl rfl
                · rintro σ' ⟨c9, h, rfl⟩
                  unfold series_Check_j3 at h
                  refine ATodo.cond rfl (fun hc => ?_) (fun hc => ?_)
                  · refine have h := iteT hc h; tSR <| rA rfl rfl <| rN <| ATodo.ret <| have h := outL h hA1; ?_
                    obtain rfl := Option.some.inj h
                    exact ImpX.here ⟨_, .cons (.tmp _ _ rfl) .nil, rfl⟩
                  · refine have h := iteFb hc h; tK <| ATodo.blk <| ATodo.blk <| tR <| ARun.qv (q_addw rfl rfl) rfl <| rM rfl rfl <| rN <| ATodo.stop <| ?_
                    obtain rfl := Option.some.inj h
                    exact hJ1 _ _ rfl <| ImpX.lq [] rfl rfl rfl
      · refine have h := iteF hc h; ATodo.exit rfl <| have h := outL h hA1; tSR <| rA rfl rfl <| rN <| ATodo.ret <| ?_
        obtain rfl := Option.some.inj h
        exact ImpX.here ⟨_, .cons (.tmp _ _ rfl) .nil, rfl⟩

set_option maxHeartbeats 4000000 in
theorem series_CheckSeries_1x_c [GI : GTab] {p0x0 : Sample} {p1x0 : List Sample} {r : Bool} (h : series_CheckSeries_1x p0x0 p1x0 = some r) : Pu Try.prog 71 [.agg [.str p0x0.Device, .str p0x0.Metric, I p0x0.At, I p0x0.Value], .rptr [.list 4 (p1x0.map Sample.av)]] (.bool r) := by
  unfold series_CheckSeries_1x at h
  refine ACall.bodyN Try.func71 rfl Try.ntmps71 Try.results71 rfl rfl ?_
  refine tSR <| n_box rfl rfl rfl rfl fun b1 => rA rfl rfl <| rN <| tS <| ATodo.cut (fun σ' => ∃ (c2 : Bool), series_CheckSeries_1x_j1 c2 = some r ∧ σ' = ⟨20, [(3, .bool c2)], []⟩) ?_ ?_
  · refine ATodo.regionM (id := 1) (A := [0, 1, 0, 4, 12, 28, 63, 127, 255, 511, 255, 1279, 3327, 7423, 16383, 32767, 65535]) 17 mixed rfl (by kernel_rfl) (by kernel_rfl) <| AM.qv (n_field_ptr rfl rfl) rfl <| AM.qv (q_load_ptr rfl rfl .p0 rfl) rfl <| AM.qv (q_load_rptr rfl rfl rfl) rfl <| bndE h fun v3 e1 h => AM.qv (t_index rfl rfl rfl e1 rfl rfl) rfl <| AM.qv (n_field_rptr rfl rfl) rfl <| AM.qv (q_load_rptr rfl rfl rfl) rfl <| AM.qv (q_sne rfl rfl) rfl <| AM.qv (q_move rfl) rfl <| AM.guard_df rfl rfl rfl (fun hc => ?_) (fun hc => ?_)
    · exact have h := iteF hc h; AM.qv (n_field_ptr rfl rfl) rfl <| AM.guard_yes rfl rfl rfl <| AM.qv (q_load_ptr rfl rfl .p0 rfl) rfl <| AM.guard_yes rfl rfl rfl <| AM.qv (q_load_rptr rfl rfl rfl) rfl <| AM.guard_yes rfl rfl rfl <| bndE h fun v4 e2 h => AM.qv (t_index rfl rfl rfl e2 rfl rfl) rfl <| AM.guard_yes rfl rfl rfl <| AM.qv (n_field_rptr rfl rfl) rfl <| AM.guard_yes rfl rfl rfl <| AM.qv (q_load_rptr rfl rfl rfl) rfl <| AM.guard_yes rfl rfl rfl <| AM.qv (q_sne rfl rfl) rfl <| AM.qv (q_pick_f rfl rfl) rfl <| AM.qv (q_assign rfl) rfl <| AM.nil <| rN <| ATodo.stop <| ImpX.lq [] ⟨decide (p0x0.Metric ≠ v4.Metric), h, rfl⟩ rfl rfl
    · exact have h := iteT hc h; AM.guard_no rfl rfl rfl rfl <| AM.guard_no rfl rfl rfl rfl <| AM.guard_no rfl rfl rfl rfl <| AM.guard_no rfl rfl rfl rfl <| AM.guard_no rfl rfl rfl rfl <| AM.guard_no rfl rfl rfl rfl <| AM.qv (q_pick_t rfl rfl) rfl <| AM.qv (q_assign rfl) rfl <| AM.nil <| rN <| ATodo.stop <| ImpX.lq [] ⟨true, h, rfl⟩ rfl rfl
  · rintro σ' ⟨c2, h, rfl⟩
    unfold series_CheckSeries_1x_j1 at h
    refine ATodo.ret <| ?_
    obtain rfl := Option.some.inj h
    exact ImpX.here ⟨_, .cons (.tmp _ _ rfl) .nil, rfl⟩

set_option maxHeartbeats 4000000 in
theorem slices_IndexFunc_Sample_Sample_c [GI : GTab] {p0x0 : List Sample} {fnb : Sample → Option Bool} {fnb_F : FuncId} [IsFn Try.prog fnb_F] {fnb_C : List AV} (fnb_h : ∀ {y0 : _} {u : Bool}, fnb y0 = some u → Pu Try.prog fnb_F (.agg [.str y0.Device, .str y0.Metric, I y0.At, I y0.Value] ::  fnb_C) (.bool u)) {r : Int} (h : slices_IndexFunc_Sample_Sample p0x0 fnb = some r) : Pu Try.prog 57 [.list 4 (p0x0.map Sample.av), .func (.func fnb_F) fnb_C] (I r) := by
  unfold slices_IndexFunc_Sample_Sample at h
  refine ACall.bodyN Try.func57 rfl Try.ntmps57 Try.results57 rfl rfl ?_
  refine tSR <| rA rfl rfl <| rN <| tS <| tSR <| rM rfl rfl <| ARun.qv (t_len rfl) rfl <| rM rfl rfl <| rN <| ATodo.block <| ATodo.loopI (fun x : Int => slices_IndexFunc_Sample_Sample_b1 p0x0 fnb x) (fun x σ' => σ' = ⟨19, [(0, .list 4 (p0x0.map Sample.av)), (1, .func (.func fnb_F) fnb_C), (7, I (p0x0.length : Int)), (8, I x)], []⟩) h ?_ ?_
  · exact ImpX.lq [] rfl rfl rfl
  · intro n2 z1 σ' J1 hmk h hJ1 hA1
    obtain rfl := hmk
    replace h : slices_IndexFunc_Sample_Sample_b1 p0x0 fnb n2 = some z1 := h
    unfold slices_IndexFunc_Sample_Sample_b1 at h
    refine tSR <| ARun.qv (q_lss rfl rfl) rfl <| rN <| tS <| ATodo.cond_d rfl (fun hc => ?_) (fun hc => ?_)
    · refine have h := iteT hc h; tK <| tS <| ATodo.block <| tSR <| rM rfl rfl <| rA rfl rfl <| rN <| tSR <| rM rfl rfl <| rM rfl rfl <| rM rfl rfl <| bndE h fun v3 e1 h => ARun.qv (t_index rfl rfl rfl e1 rfl rfl) rfl <| ARun.qv (q_load_rptr_agg rfl rfl rfl) rfl <| bndE h fun v4 e2 h => r_callvp rfl rfl (fnb_h e2) (CoL.refl _) rfl <| rN <| ATodo.cond rfl (fun hc => ?_) (fun hc => ?_)
      · refine have h := iteT hc h; tSR <| rM rfl rfl <| rA rfl rfl <| rN <| ATodo.ret <| have h := outL h hA1; ?_
        obtain rfl := Option.some.inj h
        exact ImpX.here ⟨_, .cons (.tmp _ _ rfl) .nil, rfl⟩
      · refine have h := iteFb hc h; tK <| ATodo.blk <| tR <| ARun.qv (q_addw rfl rfl) rfl <| rM rfl rfl <| rN <| ATodo.stop <| ?_
        obtain rfl := Option.some.inj h
        exact hJ1 _ _ rfl <| ImpX.lq [] rfl rfl rfl
    · refine have h := iteF hc h; ATodo.exit rfl <| have h := outL h hA1; tSR <| rA rfl rfl <| rN <| ATodo.ret <| ?_
      obtain rfl := Option.some.inj h
      exact ImpX.here ⟨_, .cons (.tmp _ _ rfl) .nil, rfl⟩

set_option maxHeartbeats 4000000 in
theorem slices_ContainsFunc_Sample_Sample_c [GI : GTab] {p0x0 : List Sample} {fnb : Sample → Option Bool} {fnb_F : FuncId} [IsFn Try.prog fnb_F] {fnb_C : List AV} (fnb_h : ∀ {y0 : _} {u : Bool}, fnb y0 = some u → Pu Try.prog fnb_F (.agg [.str y0.Device, .str y0.Metric, I y0.At, I y0.Value] ::  fnb_C) (.bool u)) {r : Bool} (h : slices_ContainsFunc_Sample_Sample p0x0 fnb = some r) : Pu Try.prog 36 [.list 4 (p0x0.map Sample.av), .func (.func fnb_F) fnb_C] (.bool r) := by
  unfold slices_ContainsFunc_Sample_Sample at h
  refine ACall.bodyN Try.func36 rfl Try.ntmps36 Try.results36 rfl rfl ?_
  refine tSR <| rA rfl rfl <| rN <| tSR <| rM rfl rfl <| rM rfl rfl <| bndE h fun v1 e1 h => r_callpB rfl (slices_IndexFunc_Sample_Sample_c fnb_h e1) (.cons (.co (.refl _)) (.cons (.co (.refl _)) .nil)) rfl rfl <| ARun.qv (q_geq rfl rfl) rfl <| rA rfl rfl <| rN <| ATodo.ret <| ?_
  obtain rfl := Option.some.inj h
  exact ImpX.here ⟨_, .cons (.tmp _ _ rfl) .nil, rfl⟩

set_option maxHeartbeats 4000000 in
theorem series_CheckSeries_c [GI : GTab] {p0x0 : List Sample} {r : Int} (h : series_CheckSeries p0x0 = some r) : Pu Try.prog 52 [.list 4 (p0x0.map Sample.av)] (I r) := by
  unfold series_CheckSeries at h
  refine ACall.bodyN Try.func52 rfl Try.ntmps52 Try.results52 rfl rfl ?_
  refine tSR <| n_box rfl rfl rfl rfl fun b1 => rA rfl rfl <| rN <| tS <| tSR <| rL rfl rfl .p0 rfl rfl <| bndE h fun v2 e1 h => r_callp rfl (series_Check_c e1) (CoL.refl _) rfl <| rA rfl rfl <| rN <| tSR <| rM rfl rfl <| ARun.qv (q_neq rfl rfl) rfl <| rN <| ATodo.cond_d rfl (fun hc => ?_) (fun hc => ?_)
  · refine have h := iteT hc h; tSR <| rM rfl rfl <| rA rfl rfl <| rN <| ATodo.ret <| ?_
    obtain rfl := Option.some.inj h
    exact ImpX.here ⟨_, .cons (.tmp _ _ rfl) .nil, rfl⟩
  · refine have h := iteF hc h; tK <| tS <| tSR <| rL rfl rfl .p0 rfl rfl <| ARun.qv (q_makeFunc rfl) rfl <| bndE h fun v3 e2 h => r_callpB rfl (slices_ContainsFunc_Sample_Sample_c (fun e => series_CheckSeries_1x_c e) e2) (.cons (.co (.refl _)) (.cons (.funcL _ _ _ (.cons (.boxL _ _ _ .p0 (.cons (.co (.refl _)) .nil)) .nil)) .nil)) rfl rfl <| rN <| ATodo.cond rfl (fun hc => ?_) (fun hc => ?_)
    · refine have h := iteT hc h; tSR <| rA rfl rfl <| rN <| ATodo.ret <| ?_
      obtain rfl := Option.some.inj h
      exact ImpX.here ⟨_, .cons (.tmp _ _ rfl) .nil, rfl⟩
    · refine have h := iteFb hc h; tK <| tSR <| rA rfl rfl <| rN <| ATodo.ret <| ?_
      obtain rfl := Option.some.inj h
      exact ImpX.here ⟨_, .cons (.tmp _ _ rfl) .nil, rfl⟩

set_option maxHeartbeats 4000000 in
theorem base_Window_c [GI : GTab] {p0x0 : Window} {r : Bool} (h : base_Window p0x0 = r) : Pu Try.prog 53 [.agg [I p0x0.From, I p0x0.To]] (.bool r) := by
  unfold base_Window at h
  refine ACall.bodyN Try.func53 rfl Try.ntmps53 Try.results53 rfl rfl ?_
  refine tSR <| n_box rfl rfl rfl rfl fun b1 => rA rfl rfl <| rN <| tS <| ATodo.cut (fun σ' => ∃ (c2 : Bool), base_Window_j1 c2 = r ∧ σ' = ⟨14, [(2, .bool c2)], []⟩) ?_ ?_
  · refine tR <| rF rfl rfl rfl <| rL rfl rfl .p0 rfl rfl <| rF rfl rfl rfl <| rL rfl rfl .p0 rfl rfl <| r_callp rfl (base_Out_c rfl) (CoL.refl _) rfl <| ARun.qv (q_not rfl) rfl <| rM rfl rfl <| ARun.guard rfl rfl rfl (fun hc => ?_) (fun hc => ?_)
    · rw [andTb hc] at h
      exact rF rfl rfl rfl <| rY rfl rfl rfl <| rL rfl rfl .p0 rfl rfl <| rY rfl rfl rfl <| ARun.qv (q_leq rfl rfl) rfl <| rT rfl rfl rfl <| rA rfl rfl <| rN <| ATodo.stop <| ImpX.lq [] ⟨decide (p0x0.To ≤ (345686400000 : Int)), h, rfl⟩ rfl rfl
    · rw [andFb hc] at h
      exact rG rfl rfl rfl rfl <| rG rfl rfl rfl rfl <| rE rfl rfl rfl <| rA rfl rfl <| rN <| ATodo.stop <| ImpX.lq [] ⟨false, h, rfl⟩ rfl rfl
  · rintro σ' ⟨c2, h, rfl⟩
    unfold base_Window_j1 at h
    refine ATodo.ret <| ?_
    obtain rfl := h
    exact ImpX.here ⟨_, .cons (.tmp _ _ rfl) .nil, rfl⟩

set_option maxHeartbeats 4000000 in
theorem series_fault_c [GI : GTab] {p0x0 : List Sample} {p1x0 : Window} {r : Int} (h : series_fault p0x0 p1x0 = some r) : Pu Try.prog 31 [.list 4 (p0x0.map Sample.av), .agg [I p1x0.From, I p1x0.To]] (I r) := by
  unfold series_fault at h
  refine ACall.bodyN Try.func31 rfl Try.ntmps31 Try.results31 rfl rfl ?_
  refine tSR <| n_box rfl rfl rfl rfl fun b1 => rA rfl rfl <| rN <| tSR <| rM rfl rfl <| bndE h fun v2 e1 h => r_callp rfl (series_CheckSeries_c e1) (CoL.refl _) rfl <| rA rfl rfl <| rN <| tS <| tS <| ATodo.cut (fun σ' => ∃ (c3 : Bool), series_fault_j1 v2 c3 = some r ∧ σ' = ⟨16, [(5, I v2), (14, .bool c3)], []⟩) ?_ ?_
  · refine tR <| rM rfl rfl <| ARun.qv (q_eql rfl rfl) rfl <| rM rfl rfl <| ARun.guard_dt rfl rfl rfl (fun hc => ?_) (fun hc => ?_)
    · rw [andTd hc] at h
      exact ARun.qv (q_load_ptr_all rfl rfl .p0 rfl) rfl <| rY rfl rfl rfl <| r_callp rfl (base_Window_c rfl) (CoL.refl _) rfl <| rY rfl rfl rfl <| ARun.qv (q_not rfl) rfl <| rT rfl rfl rfl <| rN <| ATodo.stop <| ImpX.lq [] ⟨!(base_Window p1x0), h, rfl⟩ rfl rfl
    · rw [andFd hc] at h
      exact rG rfl rfl rfl rfl <| rG rfl rfl rfl rfl <| rE rfl rfl rfl <| rN <| ATodo.stop <| ImpX.lq [] ⟨false, h, rfl⟩ rfl rfl
  · rintro σ' ⟨c3, h, rfl⟩
    unfold series_fault_j1 at h
    refine ATodo.cut (fun σ' => ∃ (n4 : Int), series_fault_j2 n4 = some r ∧ σ' = ⟨16, [(5, I n4)], []⟩) ?_ ?_
    · refine ATodo.cond rfl (fun hc => ?_) (fun hc => ?_)
      · exact have h := iteT hc h; tR <| rA rfl rfl <| rN <| ATodo.stop <| ImpX.lq [] ⟨(1 : Int), h, rfl⟩ rfl rfl
      · exact have h := iteFb hc h; tK <| ATodo.stop <| ImpX.lq [] ⟨v2, h, rfl⟩ rfl rfl
    · rintro σ' ⟨n4, h, rfl⟩
      unfold series_fault_j2 at h
      refine tSR <| rM rfl rfl <| rA rfl rfl <| rN <| ATodo.ret <| ?_
      obtain rfl := Option.some.inj h
      exact ImpX.here ⟨_, .cons (.tmp _ _ rfl) .nil, rfl⟩

set_option maxHeartbeats 4000000 in
theorem series_in_c [GI : GTab] {p0x0 : Window} {p1x0 : Int} {r : Bool} (h : series_in p0x0 p1x0 = r) : Pu Try.prog 33 [.agg [I p0x0.From, I p0x0.To], I p1x0] (.bool r) := by
  unfold series_in at h
  refine ACall.bodyN Try.func33 rfl Try.ntmps33 Try.results33 rfl rfl ?_
  refine tSR <| n_box rfl rfl rfl rfl fun b1 => rA rfl rfl <| rN <| tS <| ATodo.cut (fun σ' => ∃ (c2 : Bool), series_in_j1 c2 = r ∧ σ' = ⟨15, [(4, .bool c2)], []⟩) ?_ ?_
  · refine tR <| rM rfl rfl <| rF rfl rfl rfl <| rL rfl rfl .p0 rfl rfl <| ARun.qv (q_geq rfl rfl) rfl <| rM rfl rfl <| ARun.guard_dt rfl rfl rfl (fun hc => ?_) (fun hc => ?_)
    · rw [andTd hc] at h
      exact rM rfl rfl <| rY rfl rfl rfl <| rF rfl rfl rfl <| rY rfl rfl rfl <| rL rfl rfl .p0 rfl rfl <| rY rfl rfl rfl <| ARun.qv (q_lss rfl rfl) rfl <| rT rfl rfl rfl <| rA rfl rfl <| rN <| ATodo.stop <| ImpX.lq [] ⟨decide (p1x0 < p0x0.To), h, rfl⟩ rfl rfl
    · rw [andFd hc] at h
      exact rG rfl rfl rfl rfl <| rG rfl rfl rfl rfl <| rG rfl rfl rfl rfl <| rE rfl rfl rfl <| rA rfl rfl <| rN <| ATodo.stop <| ImpX.lq [] ⟨false, h, rfl⟩ rfl rfl
  · rintro σ' ⟨c2, h, rfl⟩
    unfold series_in_j1 at h
    refine ATodo.ret <| ?_
    obtain rfl := h
    exact ImpX.here ⟨_, .cons (.tmp _ _ rfl) .nil, rfl⟩

set_option maxHeartbeats 4000000 in
theorem series_added_n0x_c [GI : GTab] {p1x0 : Bucket} {r : (List Bucket)} (h : series_added_n0x p1x0 = some r) : ACall Try.prog 34 [.nil, .agg [I p1x0.Time.From, I p1x0.Time.To, I p1x0.Count, I p1x0.Sum, I p1x0.Min, I p1x0.Max, I p1x0.First, I p1x0.Last]] [] (T1 (fun d_0 => [(d_0, .arr 8 (r.map Bucket.av))]) (fun d_0 => .sl 8 d_0 0 r.length)) := by
  unfold series_added_n0x at h
  refine ACall.lessH ?_
  refine ACall.bodyN Try.func34 rfl Try.ntmps34 Try.results34 rfl rfl ?_
  refine tSR <| n_box rfl rfl rfl rfl fun b1 => rA rfl rfl <| rN <| tSR <| rM rfl rfl <| ARun.qv (q_len_nil rfl) rfl <| ARun.qv (q_subw rfl rfl) rfl <| rA rfl rfl <| rN <| tS <| tS <| ATodo.regionM (id := 2) (A := [0, 1, 3, 7, 7, 31, 63, 127, 7, 263, 1023, 2047]) 12 mixed rfl (by kernel_rfl) (by kernel_rfl) <| AM.qv (q_move rfl) rfl <| AM.qv (q_lss rfl rfl) rfl <| AM.qv (q_move rfl) rfl <| AM.guard_df rfl rfl rfl (fun hc => ?_) (fun hc => ?_)
  · exact have h := iteF hc h; AM.qv (q_move rfl) rfl <| AM.guard_yes rfl rfl rfl <| AM.qv (q_move rfl) rfl <| AM.guard_yes rfl rfl rfl <| bndE h fun v2 e1 h => (idx_nil e1).elim
  · refine have h := iteT hc h; AM.guard_no rfl rfl rfl rfl <| AM.guard_no rfl rfl rfl rfl <| AM.guard_no rfl rfl rfl rfl <| AM.guard_no rfl rfl rfl rfl <| AM.guard_no rfl rfl rfl rfl <| AM.guard_no rfl rfl rfl rfl <| AM.guard_no rfl rfl rfl rfl <| AM.qv (q_pick_t rfl rfl) rfl <| AM.nil <| rN <| ATodo.cond_t rfl <| tSR <| rM rfl rfl <| ARun.qv (q_load_ptr_all rfl rfl .p0 rfl) rfl <| n_buildSliceL (xs := ([p1x0] : List Bucket).map Bucket.av) rfl rfl rfl rfl rfl rfl <| bndE h fun l3 e2 h => t_append0 (g := Bucket.av) rfl rfl rfl rfl rfl rfl rfl rfl (.list _) e2 fun b4 => rA rfl rfl <| rN <| ATodo.ret <| ?_
    obtain rfl := Option.some.inj h
    exact ImpX.here ⟨_, .cons (.tmp _ _ rfl) .nil, _, .cons .p0 .nil, ⟨b4, rfl, rfl⟩⟩

set_option maxHeartbeats 4000000 in
theorem series_added_o0x_c [GI : GTab] {b_0 : Bk} {p0x0 : List Bucket} {p1x0 : Bucket} {r : (List Bucket)} (h : series_added_o0x p0x0 p1x0 = some r) : ACall Try.prog 34 [.sl 8 b_0 0 p0x0.length, .agg [I p1x0.Time.From, I p1x0.Time.To, I p1x0.Count, I p1x0.Sum, I p1x0.Min, I p1x0.Max, I p1x0.First, I p1x0.Last]] [(b_0, .arr 8 (p0x0.map Bucket.av))] (T1 (fun d_0 => [(d_0, .arr 8 (r.map Bucket.av))]) (fun d_0 => .sl 8 d_0 0 r.length)) := by
  unfold series_added_o0x at h
  refine ACall.lessH ?_
  refine ACall.bodyN Try.func34 rfl Try.ntmps34 Try.results34 rfl rfl ?_
  refine tSR <| n_box rfl rfl rfl rfl fun b1 => rA rfl rfl <| rN <| tSR <| rM rfl rfl <| ARun.qv (t_len_sl rfl) rfl <| ARun.qv (q_subw rfl rfl) rfl <| rA rfl rfl <| rN <| tS <| tS <| ATodo.cut (fun σ' => ∃ (c2 : Bool), series_added_o0x_j1 p0x0 p1x0 c2 = some r ∧ σ' = ⟨73, [(0, .sl 8 b_0 0 p0x0.length), (3, .ptr b1 0), (5, I (w64 ((p0x0.length : Int) - (1 : Int)))), (21, .bool c2)], [(b_0, .arr 8 (p0x0.map Bucket.av)), (b1, .cells [I p1x0.Time.From, I p1x0.Time.To, I p1x0.Count, I p1x0.Sum, I p1x0.Min, I p1x0.Max, I p1x0.First, I p1x0.Last])]⟩) ?_ ?_
  · refine ATodo.regionM (id := 2) (A := [0, 1, 3, 7, 7, 31, 63, 127, 7, 263, 1023, 2047]) 12 mixed rfl (by kernel_rfl) (by kernel_rfl) <| AM.qv (q_move rfl) rfl <| AM.qv (q_lss rfl rfl) rfl <| AM.qv (q_move rfl) rfl <| AM.guard_df rfl rfl rfl (fun hc => ?_) (fun hc => ?_)
    · exact have h := iteF hc h; AM.qv (q_move rfl) rfl <| AM.guard_yes rfl rfl rfl <| AM.qv (q_move rfl) rfl <| AM.guard_yes rfl rfl rfl <| bndE h fun v3 e1 h => AM.qv (t_index_sl rfl rfl rfl e1) rfl <| AM.guard_yes rfl rfl rfl <| AM.qv (t_field_aptr rfl rfl) rfl <| AM.guard_yes rfl rfl rfl <| AM.qv (t_load_aptr_part (g := Bucket.av) rfl rfl (.inl .p1) e1 rfl rfl) rfl <| AM.guard_yes rfl rfl rfl <| AM.qv (n_field_ptr rfl rfl) rfl <| AM.guard_yes rfl rfl rfl <| AM.qv (n_load_ptr_part rfl rfl .p0 rfl rfl) rfl <| AM.guard_yes rfl rfl rfl <| AM.qv (t_tne (g := Window.av) (X := v3.Time) (Y := p1x0.Time) rfl rfl rfl rfl rfl) rfl <| AM.qv (q_pick_f rfl rfl) rfl <| AM.nil <| rN <| ATodo.stop <| ImpX.lq [1, 0] ⟨decide (v3.Time ≠ p1x0.Time), h, rfl⟩ rfl rfl
    · exact have h := iteT hc h; AM.guard_no rfl rfl rfl rfl <| AM.guard_no rfl rfl rfl rfl <| AM.guard_no rfl rfl rfl rfl <| AM.guard_no rfl rfl rfl rfl <| AM.guard_no rfl rfl rfl rfl <| AM.guard_no rfl rfl rfl rfl <| AM.guard_no rfl rfl rfl rfl <| AM.qv (q_pick_t rfl rfl) rfl <| AM.nil <| rN <| ATodo.stop <| ImpX.lq [1, 0] ⟨true, h, rfl⟩ rfl rfl
  · rintro σ' ⟨c2, h, rfl⟩
    unfold series_added_o0x_j1 at h
    refine ATodo.cond rfl (fun hc => ?_) (fun hc => ?_)
    · refine have h := iteT hc h; tSR <| rM rfl rfl <| ARun.qv (q_load_ptr_all rfl rfl .p1 rfl) rfl <| n_buildSliceL (xs := ([p1x0] : List Bucket).map Bucket.av) rfl rfl rfl rfl rfl rfl <| bndE h fun l4 e2 h => t_append (g := Bucket.av) rfl rfl rfl rfl rfl rfl rfl rfl (.list _) e2 (fun _ => .p0) rfl fun b5 => rA rfl rfl <| rN <| ATodo.ret <| ?_
      obtain rfl := Option.some.inj h
      exact ImpX.here ⟨_, .cons (.tmp _ _ rfl) .nil, _, .cons .p0 .nil, ⟨b5, rfl, rfl⟩⟩
    · refine have h := iteFb hc h; tK <| tSR <| rM rfl rfl <| rM rfl rfl <| bndE h fun v6 e3 h => ARun.qv (t_index_sl rfl rfl rfl e3) rfl <| rA rfl rfl <| rN <| tS <| ATodo.regionM (id := 5) (A := [0, 1, 3, 7, 0, 16, 63, 127, 255, 511]) 9 mixed rfl (by kernel_rfl) (by kernel_rfl) <| AM.qv (q_move rfl) rfl <| AM.qv (q_nilCheck_aptr rfl) rfl <| AM.qv (t_field_aptr rfl rfl) rfl <| AM.qv (t_load_aptr (g := Bucket.av) rfl rfl (.inl .p0) e3 rfl) rfl <| AM.qv (n_field_ptr rfl rfl) rfl <| AM.qv (q_load_ptr rfl rfl .p1 rfl) rfl <| AM.qv (q_addw rfl rfl) rfl <| AM.qv (q_nilCheck_aptr rfl) rfl <| AM.qv (t_field_aptr rfl rfl) rfl <| AM.nil <| t_store_aptr1 (g := Bucket.av) (el' := (⟨v6.Time, w64 (v6.Count + p1x0.Count), v6.Sum, v6.Min, v6.Max, v6.First, v6.Last⟩ : Bucket)) rfl rfl rfl rfl e3 rfl .p0 rfl <| ARun.ghost <| ImpX.eqs (s := 0) (av' := .sl 8 b_0 0 (p0x0.set (w64 ((p0x0.length : Int) - (1 : Int))).toNat (⟨v6.Time, w64 (v6.Count + p1x0.Count), v6.Sum, v6.Min, v6.Max, v6.First, v6.Last⟩ : Bucket)).length) rfl (by rw [List.length_set]) <| ImpX.here <| ARun.ghost <| ImpX.eqs (s := 26) (av' := .sl 8 b_0 0 (p0x0.set (w64 ((p0x0.length : Int) - (1 : Int))).toNat (⟨v6.Time, w64 (v6.Count + p1x0.Count), v6.Sum, v6.Min, v6.Max, v6.First, v6.Last⟩ : Bucket)).length) rfl (by rw [List.length_set]) <| ImpX.here <| rN <| tS <| ATodo.regionM (id := 6) (A := [0, 1, 3, 7, 0, 16, 63, 127, 255, 511]) 9 mixed rfl (by kernel_rfl) (by kernel_rfl) <| AM.qv (q_move rfl) rfl <| AM.qv (q_nilCheck_aptr rfl) rfl <| AM.qv (t_field_aptr rfl rfl) rfl <| AM.qv (t_load_aptr (g := Bucket.av) rfl rfl (.inl .p0) (idx_set_self (v := (⟨v6.Time, w64 (v6.Count + p1x0.Count), v6.Sum, v6.Min, v6.Max, v6.First, v6.Last⟩ : Bucket)) e3) rfl) rfl <| AM.qv (n_field_ptr rfl rfl) rfl <| AM.qv (q_load_ptr rfl rfl .p1 rfl) rfl <| AM.qv (q_addw rfl rfl) rfl <| AM.qv (q_nilCheck_aptr rfl) rfl <| AM.qv (t_field_aptr rfl rfl) rfl <| AM.nil <| t_store_aptr1 (g := Bucket.av) (el' := (⟨v6.Time, w64 (v6.Count + p1x0.Count), w64 (v6.Sum + p1x0.Sum), v6.Min, v6.Max, v6.First, v6.Last⟩ : Bucket)) rfl rfl rfl rfl (idx_set_self (v := (⟨v6.Time, w64 (v6.Count + p1x0.Count), v6.Sum, v6.Min, v6.Max, v6.First, v6.Last⟩ : Bucket)) e3) rfl .p0 rfl <| ARun.ghost <| ImpX.eqs (s := 0) (av' := .sl 8 b_0 0 ((p0x0.set (w64 ((p0x0.length : Int) - (1 : Int))).toNat (⟨v6.Time, w64 (v6.Count + p1x0.Count), v6.Sum, v6.Min, v6.Max, v6.First, v6.Last⟩ : Bucket)).set (w64 ((p0x0.length : Int) - (1 : Int))).toNat (⟨v6.Time, w64 (v6.Count + p1x0.Count), w64 (v6.Sum + p1x0.Sum), v6.Min, v6.Max, v6.First, v6.Last⟩ : Bucket)).length) rfl (by rw [List.length_set]) <| ImpX.here <| ARun.ghost <| ImpX.eqs (s := 26) (av' := .sl 8 b_0 0 ((p0x0.set (w64 ((p0x0.length : Int) - (1 : Int))).toNat (⟨v6.Time, w64 (v6.Count + p1x0.Count), v6.Sum, v6.Min, v6.Max, v6.First, v6.Last⟩ : Bucket)).set (w64 ((p0x0.length : Int) - (1 : Int))).toNat (⟨v6.Time, w64 (v6.Count + p1x0.Count), w64 (v6.Sum + p1x0.Sum), v6.Min, v6.Max, v6.First, v6.Last⟩ : Bucket)).length) rfl (by rw [List.length_set]) <| ImpX.here <| rN <| tS <| ATodo.regionT (id := 7) (A := [0, 0, 0, 0, 8, 24, 56, 0, 128, 504, 0, 1024, 3072, 7168, 0, 16384, 64512, 0, 131072, 16377, 540665, 1589241, 3801083, 7995387, 16383995, 33554431, 67108863, 134217727]) (H0 := [(b_0, .arr 8 (((p0x0.set (w64 ((p0x0.length : Int) - (1 : Int))).toNat (⟨v6.Time, w64 (v6.Count + p1x0.Count), v6.Sum, v6.Min, v6.Max, v6.First, v6.Last⟩ : Bucket)).set (w64 ((p0x0.length : Int) - (1 : Int))).toNat (⟨v6.Time, w64 (v6.Count + p1x0.Count), w64 (v6.Sum + p1x0.Sum), v6.Min, v6.Max, v6.First, v6.Last⟩ : Bucket)).map Bucket.av))]) (HH := fun β => [(b_0, .arr 8 (((((p0x0.set (w64 ((p0x0.length : Int) - (1 : Int))).toNat (⟨v6.Time, w64 (v6.Count + p1x0.Count), v6.Sum, v6.Min, v6.Max, v6.First, v6.Last⟩ : Bucket)).set (w64 ((p0x0.length : Int) - (1 : Int))).toNat (⟨v6.Time, w64 (v6.Count + p1x0.Count), w64 (v6.Sum + p1x0.Sum), v6.Min, v6.Max, v6.First, v6.Last⟩ : Bucket)).set (w64 ((p0x0.length : Int) - (1 : Int))).toNat (⟨v6.Time, w64 (v6.Count + p1x0.Count), w64 (v6.Sum + p1x0.Sum), min v6.Min p1x0.Min, v6.Max, v6.First, v6.Last⟩ : Bucket)).set (w64 ((p0x0.length : Int) - (1 : Int))).toNat (⟨v6.Time, w64 (v6.Count + p1x0.Count), w64 (v6.Sum + p1x0.Sum), min v6.Min p1x0.Min, max v6.Max p1x0.Max, v6.First, v6.Last⟩ : Bucket)).map Bucket.av)), (b1, .cells [I p1x0.Time.From, I p1x0.Time.To, I p1x0.Count, I p1x0.Sum, I p1x0.Min, I p1x0.Max, I p1x0.First, I p1x0.Last])]) 25 mixed rfl (by kernel_rfl) (by kernel_rfl) [⟨none, some 21, [6, 13], fun _ => (b_0, .arr 8 (((p0x0.set (w64 ((p0x0.length : Int) - (1 : Int))).toNat (⟨v6.Time, w64 (v6.Count + p1x0.Count), v6.Sum, v6.Min, v6.Max, v6.First, v6.Last⟩ : Bucket)).set (w64 ((p0x0.length : Int) - (1 : Int))).toNat (⟨v6.Time, w64 (v6.Count + p1x0.Count), w64 (v6.Sum + p1x0.Sum), v6.Min, v6.Max, v6.First, v6.Last⟩ : Bucket)).map Bucket.av)), none⟩, ⟨some 21, some 24, [], fun _ => (b_0, .arr 8 ((((p0x0.set (w64 ((p0x0.length : Int) - (1 : Int))).toNat (⟨v6.Time, w64 (v6.Count + p1x0.Count), v6.Sum, v6.Min, v6.Max, v6.First, v6.Last⟩ : Bucket)).set (w64 ((p0x0.length : Int) - (1 : Int))).toNat (⟨v6.Time, w64 (v6.Count + p1x0.Count), w64 (v6.Sum + p1x0.Sum), v6.Min, v6.Max, v6.First, v6.Last⟩ : Bucket)).set (w64 ((p0x0.length : Int) - (1 : Int))).toNat (⟨v6.Time, w64 (v6.Count + p1x0.Count), w64 (v6.Sum + p1x0.Sum), min v6.Min p1x0.Min, v6.Max, v6.First, v6.Last⟩ : Bucket)).map Bucket.av)), none⟩, ⟨some 24, none, [], fun _ => (b_0, .arr 8 (((((p0x0.set (w64 ((p0x0.length : Int) - (1 : Int))).toNat (⟨v6.Time, w64 (v6.Count + p1x0.Count), v6.Sum, v6.Min, v6.Max, v6.First, v6.Last⟩ : Bucket)).set (w64 ((p0x0.length : Int) - (1 : Int))).toNat (⟨v6.Time, w64 (v6.Count + p1x0.Count), w64 (v6.Sum + p1x0.Sum), v6.Min, v6.Max, v6.First, v6.Last⟩ : Bucket)).set (w64 ((p0x0.length : Int) - (1 : Int))).toNat (⟨v6.Time, w64 (v6.Count + p1x0.Count), w64 (v6.Sum + p1x0.Sum), min v6.Min p1x0.Min, v6.Max, v6.First, v6.Last⟩ : Bucket)).set (w64 ((p0x0.length : Int) - (1 : Int))).toNat (⟨v6.Time, w64 (v6.Count + p1x0.Count), w64 (v6.Sum + p1x0.Sum), min v6.Min p1x0.Min, max v6.Max p1x0.Max, v6.First, v6.Last⟩ : Bucket)).map Bucket.av)), none⟩] [] rfl (by kernel_rfl) rfl (.cons .p0 .nil) (fun _ => rfl) <| AT.am 6 rfl rfl <| AM.qv (q_move rfl) rfl <| AM.qv (q_move rfl) rfl <| AM.qv (q_move rfl) rfl <| AM.qv (q_move rfl) rfl <| AM.qv (q_nilCheck_aptr rfl) rfl <| AM.qv (t_field_aptr rfl rfl) rfl <| AM.nil <| AT.rd (Rs := [(b_0, .arr 8 (((p0x0.set (w64 ((p0x0.length : Int) - (1 : Int))).toNat (⟨v6.Time, w64 (v6.Count + p1x0.Count), v6.Sum, v6.Min, v6.Max, v6.First, v6.Last⟩ : Bucket)).set (w64 ((p0x0.length : Int) - (1 : Int))).toNat (⟨v6.Time, w64 (v6.Count + p1x0.Count), w64 (v6.Sum + p1x0.Sum), v6.Min, v6.Max, v6.First, v6.Last⟩ : Bucket)).map Bucket.av))]) (fun _ => rfl) rfl (fun _ => rfl) (fun _ => rfl) (t_load_aptr (g := Bucket.av) rfl rfl (.inl .p0) (idx_set_self (v := (⟨v6.Time, w64 (v6.Count + p1x0.Count), w64 (v6.Sum + p1x0.Sum), v6.Min, v6.Max, v6.First, v6.Last⟩ : Bucket)) (idx_set_self (v := (⟨v6.Time, w64 (v6.Count + p1x0.Count), v6.Sum, v6.Min, v6.Max, v6.First, v6.Last⟩ : Bucket)) e3)) rfl) rfl <| AT.am 6 rfl rfl <| AM.qv (n_field_ptr rfl rfl) rfl <| AM.qv (q_load_ptr rfl rfl .p0 rfl) rfl <| AM.qv (q_min rfl rfl) rfl <| AM.qv (q_move rfl) rfl <| AM.qv (q_nilCheck_aptr rfl) rfl <| AM.qv (t_field_aptr rfl rfl) rfl <| AM.nil <| AT.rd (Rs := [(b_0, .arr 8 (((p0x0.set (w64 ((p0x0.length : Int) - (1 : Int))).toNat (⟨v6.Time, w64 (v6.Count + p1x0.Count), v6.Sum, v6.Min, v6.Max, v6.First, v6.Last⟩ : Bucket)).set (w64 ((p0x0.length : Int) - (1 : Int))).toNat (⟨v6.Time, w64 (v6.Count + p1x0.Count), w64 (v6.Sum + p1x0.Sum), v6.Min, v6.Max, v6.First, v6.Last⟩ : Bucket)).map Bucket.av))]) (fun _ => rfl) rfl (fun _ => rfl) (fun _ => rfl) (t_load_aptr (g := Bucket.av) rfl rfl (.inl .p0) (idx_set_self (v := (⟨v6.Time, w64 (v6.Count + p1x0.Count), w64 (v6.Sum + p1x0.Sum), v6.Min, v6.Max, v6.First, v6.Last⟩ : Bucket)) (idx_set_self (v := (⟨v6.Time, w64 (v6.Count + p1x0.Count), v6.Sum, v6.Min, v6.Max, v6.First, v6.Last⟩ : Bucket)) e3)) rfl) rfl <| AT.am 7 rfl rfl <| AM.qv (n_field_ptr rfl rfl) rfl <| AM.qv (q_load_ptr rfl rfl .p0 rfl) rfl <| AM.qv (q_max rfl rfl) rfl <| AM.qv (n_field_ptr rfl rfl) rfl <| AM.qv (q_load_ptr rfl rfl .p0 rfl) rfl <| AM.qv (q_nilCheck_aptr rfl) rfl <| AM.qv (t_field_aptr rfl rfl) rfl <| AM.nil <| AT.run0 (Ti := [(b_0, .arr 8 (((p0x0.set (w64 ((p0x0.length : Int) - (1 : Int))).toNat (⟨v6.Time, w64 (v6.Count + p1x0.Count), v6.Sum, v6.Min, v6.Max, v6.First, v6.Last⟩ : Bucket)).set (w64 ((p0x0.length : Int) - (1 : Int))).toNat (⟨v6.Time, w64 (v6.Count + p1x0.Count), w64 (v6.Sum + p1x0.Sum), v6.Min, v6.Max, v6.First, v6.Last⟩ : Bucket)).map Bucket.av))]) (Pi := [(b_0, .arr 8 ((((p0x0.set (w64 ((p0x0.length : Int) - (1 : Int))).toNat (⟨v6.Time, w64 (v6.Count + p1x0.Count), v6.Sum, v6.Min, v6.Max, v6.First, v6.Last⟩ : Bucket)).set (w64 ((p0x0.length : Int) - (1 : Int))).toNat (⟨v6.Time, w64 (v6.Count + p1x0.Count), w64 (v6.Sum + p1x0.Sum), v6.Min, v6.Max, v6.First, v6.Last⟩ : Bucket)).set (w64 ((p0x0.length : Int) - (1 : Int))).toNat (⟨v6.Time, w64 (v6.Count + p1x0.Count), w64 (v6.Sum + p1x0.Sum), min v6.Min p1x0.Min, v6.Max, v6.First, v6.Last⟩ : Bucket)).map Bucket.av))]) (fun _ => rfl) (fun _ => rfl) (fun _ => rfl) rfl rfl ?_ ?_
      · exact t_store_aptr1 (g := Bucket.av) (el' := (⟨v6.Time, w64 (v6.Count + p1x0.Count), w64 (v6.Sum + p1x0.Sum), min v6.Min p1x0.Min, v6.Max, v6.First, v6.Last⟩ : Bucket)) rfl rfl rfl rfl (idx_set_self (v := (⟨v6.Time, w64 (v6.Count + p1x0.Count), w64 (v6.Sum + p1x0.Sum), v6.Min, v6.Max, v6.First, v6.Last⟩ : Bucket)) (idx_set_self (v := (⟨v6.Time, w64 (v6.Count + p1x0.Count), v6.Sum, v6.Min, v6.Max, v6.First, v6.Last⟩ : Bucket)) e3)) rfl .p0 rfl <| ARun.nil ⟨_, rfl⟩
      refine AT.am 2 rfl rfl <| AM.qv (q_nilCheck_aptr rfl) rfl <| AM.qv (t_field_aptr rfl rfl) rfl <| AM.nil <| AT.run0 (Ti := [(b_0, .arr 8 ((((p0x0.set (w64 ((p0x0.length : Int) - (1 : Int))).toNat (⟨v6.Time, w64 (v6.Count + p1x0.Count), v6.Sum, v6.Min, v6.Max, v6.First, v6.Last⟩ : Bucket)).set (w64 ((p0x0.length : Int) - (1 : Int))).toNat (⟨v6.Time, w64 (v6.Count + p1x0.Count), w64 (v6.Sum + p1x0.Sum), v6.Min, v6.Max, v6.First, v6.Last⟩ : Bucket)).set (w64 ((p0x0.length : Int) - (1 : Int))).toNat (⟨v6.Time, w64 (v6.Count + p1x0.Count), w64 (v6.Sum + p1x0.Sum), min v6.Min p1x0.Min, v6.Max, v6.First, v6.Last⟩ : Bucket)).map Bucket.av))]) (Pi := [(b_0, .arr 8 (((((p0x0.set (w64 ((p0x0.length : Int) - (1 : Int))).toNat (⟨v6.Time, w64 (v6.Count + p1x0.Count), v6.Sum, v6.Min, v6.Max, v6.First, v6.Last⟩ : Bucket)).set (w64 ((p0x0.length : Int) - (1 : Int))).toNat (⟨v6.Time, w64 (v6.Count + p1x0.Count), w64 (v6.Sum + p1x0.Sum), v6.Min, v6.Max, v6.First, v6.Last⟩ : Bucket)).set (w64 ((p0x0.length : Int) - (1 : Int))).toNat (⟨v6.Time, w64 (v6.Count + p1x0.Count), w64 (v6.Sum + p1x0.Sum), min v6.Min p1x0.Min, v6.Max, v6.First, v6.Last⟩ : Bucket)).set (w64 ((p0x0.length : Int) - (1 : Int))).toNat (⟨v6.Time, w64 (v6.Count + p1x0.Count), w64 (v6.Sum + p1x0.Sum), min v6.Min p1x0.Min, max v6.Max p1x0.Max, v6.First, v6.Last⟩ : Bucket)).map Bucket.av))]) (fun _ => rfl) (fun _ => rfl) (fun _ => rfl) rfl rfl ?_ ?_
      · exact t_store_aptr1 (g := Bucket.av) (el' := (⟨v6.Time, w64 (v6.Count + p1x0.Count), w64 (v6.Sum + p1x0.Sum), min v6.Min p1x0.Min, max v6.Max p1x0.Max, v6.First, v6.Last⟩ : Bucket)) rfl rfl rfl rfl (idx_set_self (v := (⟨v6.Time, w64 (v6.Count + p1x0.Count), w64 (v6.Sum + p1x0.Sum), min v6.Min p1x0.Min, v6.Max, v6.First, v6.Last⟩ : Bucket)) (idx_set_self (v := (⟨v6.Time, w64 (v6.Count + p1x0.Count), w64 (v6.Sum + p1x0.Sum), v6.Min, v6.Max, v6.First, v6.Last⟩ : Bucket)) (idx_set_self (v := (⟨v6.Time, w64 (v6.Count + p1x0.Count), v6.Sum, v6.Min, v6.Max, v6.First, v6.Last⟩ : Bucket)) e3))) rfl .p0 rfl <| ARun.nil ⟨_, rfl⟩
      refine AT.nilN (fun _ => rfl) fun β => ARun.ghost <| ImpX.eqs (s := 0) (av' := .sl 8 b_0 0 ((((p0x0.set (w64 ((p0x0.length : Int) - (1 : Int))).toNat (⟨v6.Time, w64 (v6.Count + p1x0.Count), v6.Sum, v6.Min, v6.Max, v6.First, v6.Last⟩ : Bucket)).set (w64 ((p0x0.length : Int) - (1 : Int))).toNat (⟨v6.Time, w64 (v6.Count + p1x0.Count), w64 (v6.Sum + p1x0.Sum), v6.Min, v6.Max, v6.First, v6.Last⟩ : Bucket)).set (w64 ((p0x0.length : Int) - (1 : Int))).toNat (⟨v6.Time, w64 (v6.Count + p1x0.Count), w64 (v6.Sum + p1x0.Sum), min v6.Min p1x0.Min, v6.Max, v6.First, v6.Last⟩ : Bucket)).set (w64 ((p0x0.length : Int) - (1 : Int))).toNat (⟨v6.Time, w64 (v6.Count + p1x0.Count), w64 (v6.Sum + p1x0.Sum), min v6.Min p1x0.Min, max v6.Max p1x0.Max, v6.First, v6.Last⟩ : Bucket)).length) rfl (by simp) <| ImpX.here <| ARun.ghost <| ImpX.eqs (s := 26) (av' := .sl 8 b_0 0 ((((p0x0.set (w64 ((p0x0.length : Int) - (1 : Int))).toNat (⟨v6.Time, w64 (v6.Count + p1x0.Count), v6.Sum, v6.Min, v6.Max, v6.First, v6.Last⟩ : Bucket)).set (w64 ((p0x0.length : Int) - (1 : Int))).toNat (⟨v6.Time, w64 (v6.Count + p1x0.Count), w64 (v6.Sum + p1x0.Sum), v6.Min, v6.Max, v6.First, v6.Last⟩ : Bucket)).set (w64 ((p0x0.length : Int) - (1 : Int))).toNat (⟨v6.Time, w64 (v6.Count + p1x0.Count), w64 (v6.Sum + p1x0.Sum), min v6.Min p1x0.Min, v6.Max, v6.First, v6.Last⟩ : Bucket)).set (w64 ((p0x0.length : Int) - (1 : Int))).toNat (⟨v6.Time, w64 (v6.Count + p1x0.Count), w64 (v6.Sum + p1x0.Sum), min v6.Min p1x0.Min, max v6.Max p1x0.Max, v6.First, v6.Last⟩ : Bucket)).length) rfl (by simp) <| ImpX.here <| ARun.qv (q_nilCheck_aptr rfl) rfl <| ARun.qv (t_field_aptr rfl rfl) rfl <| t_store_aptr1 (g := Bucket.av) (el' := (⟨v6.Time, w64 (v6.Count + p1x0.Count), w64 (v6.Sum + p1x0.Sum), min v6.Min p1x0.Min, max v6.Max p1x0.Max, v6.First, p1x0.Last⟩ : Bucket)) rfl rfl rfl rfl (idx_set_self (v := (⟨v6.Time, w64 (v6.Count + p1x0.Count), w64 (v6.Sum + p1x0.Sum), min v6.Min p1x0.Min, max v6.Max p1x0.Max, v6.First, v6.Last⟩ : Bucket)) (idx_set_self (v := (⟨v6.Time, w64 (v6.Count + p1x0.Count), w64 (v6.Sum + p1x0.Sum), min v6.Min p1x0.Min, v6.Max, v6.First, v6.Last⟩ : Bucket)) (idx_set_self (v := (⟨v6.Time, w64 (v6.Count + p1x0.Count), w64 (v6.Sum + p1x0.Sum), v6.Min, v6.Max, v6.First, v6.Last⟩ : Bucket)) (idx_set_self (v := (⟨v6.Time, w64 (v6.Count + p1x0.Count), v6.Sum, v6.Min, v6.Max, v6.First, v6.Last⟩ : Bucket)) e3)))) rfl .p0 rfl <| ARun.ghost <| ImpX.eqs (s := 0) (av' := .sl 8 b_0 0 (((((p0x0.set (w64 ((p0x0.length : Int) - (1 : Int))).toNat (⟨v6.Time, w64 (v6.Count + p1x0.Count), v6.Sum, v6.Min, v6.Max, v6.First, v6.Last⟩ : Bucket)).set (w64 ((p0x0.length : Int) - (1 : Int))).toNat (⟨v6.Time, w64 (v6.Count + p1x0.Count), w64 (v6.Sum + p1x0.Sum), v6.Min, v6.Max, v6.First, v6.Last⟩ : Bucket)).set (w64 ((p0x0.length : Int) - (1 : Int))).toNat (⟨v6.Time, w64 (v6.Count + p1x0.Count), w64 (v6.Sum + p1x0.Sum), min v6.Min p1x0.Min, v6.Max, v6.First, v6.Last⟩ : Bucket)).set (w64 ((p0x0.length : Int) - (1 : Int))).toNat (⟨v6.Time, w64 (v6.Count + p1x0.Count), w64 (v6.Sum + p1x0.Sum), min v6.Min p1x0.Min, max v6.Max p1x0.Max, v6.First, v6.Last⟩ : Bucket)).set (w64 ((p0x0.length : Int) - (1 : Int))).toNat (⟨v6.Time, w64 (v6.Count + p1x0.Count), w64 (v6.Sum + p1x0.Sum), min v6.Min p1x0.Min, max v6.Max p1x0.Max, v6.First, p1x0.Last⟩ : Bucket)).length) rfl (by rw [List.length_set]) <| ImpX.here <| ARun.ghost <| ImpX.eqs (s := 26) (av' := .sl 8 b_0 0 (((((p0x0.set (w64 ((p0x0.length : Int) - (1 : Int))).toNat (⟨v6.Time, w64 (v6.Count + p1x0.Count), v6.Sum, v6.Min, v6.Max, v6.First, v6.Last⟩ : Bucket)).set (w64 ((p0x0.length : Int) - (1 : Int))).toNat (⟨v6.Time, w64 (v6.Count + p1x0.Count), w64 (v6.Sum + p1x0.Sum), v6.Min, v6.Max, v6.First, v6.Last⟩ : Bucket)).set (w64 ((p0x0.length : Int) - (1 : Int))).toNat (⟨v6.Time, w64 (v6.Count + p1x0.Count), w64 (v6.Sum + p1x0.Sum), min v6.Min p1x0.Min, v6.Max, v6.First, v6.Last⟩ : Bucket)).set (w64 ((p0x0.length : Int) - (1 : Int))).toNat (⟨v6.Time, w64 (v6.Count + p1x0.Count), w64 (v6.Sum + p1x0.Sum), min v6.Min p1x0.Min, max v6.Max p1x0.Max, v6.First, v6.Last⟩ : Bucket)).set (w64 ((p0x0.length : Int) - (1 : Int))).toNat (⟨v6.Time, w64 (v6.Count + p1x0.Count), w64 (v6.Sum + p1x0.Sum), min v6.Min p1x0.Min, max v6.Max p1x0.Max, v6.First, p1x0.Last⟩ : Bucket)).length) rfl (by rw [List.length_set]) <| ImpX.here <| rN <| tSR <| rM rfl rfl <| rA rfl rfl <| rN <| ATodo.ret <| ?_
      obtain rfl := Option.some.inj h
      exact ImpX.here ⟨_, .cons (.tmp _ _ rfl) .nil, _, .cons .p0 .nil, ⟨b_0, rfl, rfl⟩⟩

set_option maxHeartbeats 4000000 in
theorem series_Buckets_c [GI : GTab] {p0x0 : List Sample} {p1x0 : Window} {p2x0 : Int} {r : (List Bucket) × Int} (h : series_Buckets p0x0 p1x0 p2x0 = some r) : ACall Try.prog 8 [.list 4 (p0x0.map Sample.av), .agg [I p1x0.From, I p1x0.To], I p2x0] [] (T1 (fun d_0 => [(d_0, .arr 8 (r.1.map Bucket.av))]) (fun d_0 => .tup [.sl 8 d_0 0 r.1.length, I r.2])) := by
  unfold series_Buckets at h
  refine ACall.lessH ?_
  refine ACall.bodyN Try.func8 rfl Try.ntmps8 Try.results8 rfl rfl ?_
  refine tSR <| n_box rfl rfl rfl rfl fun b1 => rA rfl rfl <| rA rfl rfl <| rN <| tS <| tSR <| rM rfl rfl <| ARun.qv (q_load_ptr_all rfl rfl .p0 rfl) rfl <| bndE h fun v2 e1 h => r_callp rfl (series_fault_c e1) (CoL.refl _) rfl <| rA rfl rfl <| rN <| tSR <| rM rfl rfl <| ARun.qv (q_neq rfl rfl) rfl <| rN <| ATodo.cond_d rfl (fun hc => ?_) (fun hc => ?_)
  · refine have h := iteT hc h; tSR <| rM rfl rfl <| rA rfl rfl <| rA rfl rfl <| rN <| ATodo.ret <| ?_
    obtain rfl := Option.some.inj h
    exact ImpX.arr (s := 6) 8 rfl fun b3 => ImpX.here ⟨_, .cons (.tmp _ _ rfl) (.cons (.tmp _ _ rfl) .nil), _, .cons .p0 .nil, ⟨b3, rfl, rfl⟩⟩
  · refine have h := iteF hc h; tK <| tS <| tSR <| rM rfl rfl <| r_callp rfl (base_Out_c rfl) (CoL.refl _) rfl <| rN <| ATodo.cond rfl (fun hc => ?_) (fun hc => ?_)
    · refine have h := iteT hc h; tSR <| rA rfl rfl <| rA rfl rfl <| rN <| ATodo.ret <| ?_
      obtain rfl := Option.some.inj h
      exact ImpX.arr (s := 6) 8 rfl fun b4 => ImpX.here ⟨_, .cons (.tmp _ _ rfl) (.cons (.tmp _ _ rfl) .nil), _, .cons .p0 .nil, ⟨b4, rfl, rfl⟩⟩
    · refine have h := iteFb hc h; tK <| tSR <| rA rfl rfl <| rN <| tS <| tSR <| rM rfl rfl <| ARun.qv (t_len rfl) rfl <| rM rfl rfl <| rN <| ATodo.block <| ATodo.loopI (fun x : (List Bucket) × Int => series_Buckets_b1 p0x0 p1x0 p2x0 x.1 x.2) (fun x σ' => ∃ (b8 : Bk), σ' = ⟨57, [(2, I p2x0), (4, .ptr b1 0), (9, .sl 8 b8 0 x.1.length), (21, .list 4 (p0x0.map Sample.av)), (22, I (p0x0.length : Int)), (23, I x.2)], [(b1, .cells [I p1x0.From, I p1x0.To]), (b8, .arr 8 (x.1.map Bucket.av))]⟩) h ?_ ?_
      · exact ImpX.arr (s := 9) 8 rfl fun b11 => ImpX.lq [1, 0] ⟨b11, rfl⟩ rfl rfl
      · intro x z1 σ' J1 hmk h hJ1 hA1
        obtain ⟨l9, n10⟩ := x
        obtain ⟨b8, rfl⟩ := hmk
        replace h : series_Buckets_b1 p0x0 p1x0 p2x0 l9 n10 = some z1 := h
        unfold series_Buckets_b1 at h
        refine tSR <| ARun.qv (q_lss rfl rfl) rfl <| rN <| tS <| ATodo.cond_d rfl (fun hc => ?_) (fun hc => ?_)
        · refine have h := iteT hc h; tK <| tS <| ATodo.block <| tSR <| bndE h fun v12 e2 h => ARun.qv (t_index rfl rfl rfl e2 rfl rfl) rfl <| ARun.qv (q_load_rptr_agg rfl rfl rfl) rfl <| n_alloc rfl rfl rfl rfl fun b13 => n_store_ptr rfl rfl rfl rfl .p0 rfl rfl <| rN <| tSR <| ARun.qv (q_load_ptr_all rfl rfl .p1 rfl) rfl <| rF rfl rfl rfl <| rL rfl rfl .p0 rfl rfl <| r_callp rfl (series_in_c rfl) (CoL.refl _) rfl <| rN <| ATodo.cut (fun σ' => ∃ (b14 : Bk) (l15 : List Bucket), series_Buckets_j1 n10 l15 = some z1 ∧ σ' = ⟨57, [(2, I p2x0), (4, .ptr b1 0), (9, .sl 8 b14 0 l15.length), (21, .list 4 (p0x0.map Sample.av)), (22, I (p0x0.length : Int)), (23, I n10)], [(b1, .cells [I p1x0.From, I p1x0.To]), (b14, .arr 8 (l15.map Bucket.av))]⟩) ?_ ?_
          · refine ATodo.cond rfl (fun hc => ?_) (fun hc => ?_)
            · exact have h := iteT hc h; tSR <| rF rfl rfl rfl <| rL rfl rfl .p0 rfl rfl <| rM rfl rfl <| bndE h fun n16 e3 h => ARun.qv (t_quoS rfl rfl e3) rfl <| rM rfl rfl <| ARun.qv (q_mulw rfl rfl) rfl <| rA rfl rfl <| rN <| tR <| rM rfl rfl <| rM rfl rfl <| rM rfl rfl <| rM rfl rfl <| ARun.qv (q_addw rfl rfl) rfl <| ARun.qv (n_build rfl rfl rfl rfl rfl) rfl <| rF rfl rfl rfl <| rL rfl rfl .p0 rfl rfl <| rF rfl rfl rfl <| rL rfl rfl .p0 rfl rfl <| rF rfl rfl rfl <| rL rfl rfl .p0 rfl rfl <| rF rfl rfl rfl <| rL rfl rfl .p0 rfl rfl <| rF rfl rfl rfl <| rL rfl rfl .p0 rfl rfl <| ARun.qv (n_build rfl rfl rfl rfl rfl) rfl <| bndE h fun v17 e4 h => t_call1 rfl (series_added_o0x_c e4) (CoL.refl _) (.cons .p2 .nil) (fun _ => rfl) rfl fun b18 => rA rfl rfl <| rN <| ATodo.stop <| ImpX.lq [2, 0] ⟨b18, v17, h, rfl⟩ rfl rfl
            · exact have h := iteFb hc h; tK <| ATodo.stop <| ImpX.lq [1, 1] ⟨b8, l9, h, rfl⟩ rfl rfl
          · rintro σ' ⟨b14, l15, h, rfl⟩
            unfold series_Buckets_j1 at h
            refine ATodo.blk <| tR <| ARun.qv (q_addw rfl rfl) rfl <| rM rfl rfl <| rN <| ATodo.stop <| ?_
            obtain rfl := Option.some.inj h
            exact hJ1 _ _ rfl <| ImpX.lq [0, 0] ⟨b14, rfl⟩ rfl rfl
        · refine have h := iteF hc h; ATodo.exit rfl <| have h := outL h hA1; tSR <| rM rfl rfl <| rA rfl rfl <| rA rfl rfl <| rN <| ATodo.ret <| ?_
          obtain rfl := Option.some.inj h
          exact ImpX.here ⟨_, .cons (.tmp _ _ rfl) (.cons (.tmp _ _ rfl) .nil), _, .cons .p1 .nil, ⟨b8, rfl, rfl⟩⟩

set_option maxHeartbeats 4000000 in
theorem Q_in_c [GI : GTab] {p0x0 : Int} {p1x0 : Int} {p2x0 : Int} {r : Bool} (h : Q_in p0x0 p1x0 p2x0 = r) : Pu Try.prog 38 [I p0x0, I p1x0, I p2x0] (.bool r) := by
  unfold Q_in at h
  refine ACall.bodyN Try.func38 rfl Try.ntmps38 Try.results38 rfl rfl ?_
  refine tSR <| rA rfl rfl <| rN <| tS <| ATodo.cut (fun σ' => ∃ (c1 : Bool), Q_in_j1 c1 = r ∧ σ' = ⟨15, [(6, .bool c1)], []⟩) ?_ ?_
  · refine tR <| rM rfl rfl <| rM rfl rfl <| ARun.qv (q_leq rfl rfl) rfl <| rM rfl rfl <| ARun.guard_dt rfl rfl rfl (fun hc => ?_) (fun hc => ?_)
    · rw [andTd hc] at h
      exact rM rfl rfl <| rY rfl rfl rfl <| rM rfl rfl <| rY rfl rfl rfl <| ARun.qv (q_leq rfl rfl) rfl <| rT rfl rfl rfl <| rA rfl rfl <| rN <| ATodo.stop <| ImpX.lq [] ⟨decide (p0x0 ≤ p2x0), h, rfl⟩ rfl rfl
    · rw [andFd hc] at h
      exact rG rfl rfl rfl rfl <| rG rfl rfl rfl rfl <| rE rfl rfl rfl <| rA rfl rfl <| rN <| ATodo.stop <| ImpX.lq [] ⟨false, h, rfl⟩ rfl rfl
  · rintro σ' ⟨c1, h, rfl⟩
    unfold Q_in_j1 at h
    refine ATodo.ret <| ?_
    obtain rfl := h
    exact ImpX.here ⟨_, .cons (.tmp _ _ rfl) .nil, rfl⟩

set_option maxHeartbeats 4000000 in
theorem Q_only_c [GI : GTab] {p0x0 : Str} {p1x0 : Str} {r : Bool} (h : Q_only p0x0 p1x0 = some r) : Pu Try.prog 72 [.str p0x0, .str p1x0] (.bool r) := by
  unfold Q_only at h
  refine ACall.bodyN Try.func72 rfl Try.ntmps72 Try.results72 rfl rfl ?_
  refine tSR <| rA rfl rfl <| rN <| tS <| tSR <| rM rfl rfl <| ARun.qv (q_len_str rfl) rfl <| rM rfl rfl <| rN <| ATodo.block <| ATodo.loopI (fun x : Int => Q_only_b1 p0x0 p1x0 x) (fun x σ' => σ' = ⟨18, [(0, .str p0x0), (1, .str p1x0), (7, I (p0x0.length : Int)), (8, I x)], []⟩) h ?_ ?_
  · exact ImpX.lq [] rfl rfl rfl
  · intro n2 z1 σ' J1 hmk h hJ1 hA1
    obtain rfl := hmk
    replace h : Q_only_b1 p0x0 p1x0 n2 = some z1 := h
    unfold Q_only_b1 at h
    refine tSR <| ARun.qv (q_lss rfl rfl) rfl <| rN <| tS <| ATodo.cond_d rfl (fun hc => ?_) (fun hc => ?_)
    · refine have h := iteT hc h; tK <| tS <| ATodo.block <| tSR <| rM rfl rfl <| rA rfl rfl <| rN <| tSR <| rM rfl rfl <| rM rfl rfl <| rM rfl rfl <| bndE h fun c3 e1 h => ARun.qv (t_index_str rfl rfl e1) rfl <| r_callp rfl (strings_IndexByte_c rfl) (CoL.refl _) rfl <| ARun.qv (q_lss rfl rfl) rfl <| rN <| ATodo.cond_d rfl (fun hc => ?_) (fun hc => ?_)
      · refine have h := iteT hc h; tSR <| rA rfl rfl <| rN <| ATodo.ret <| have h := outL h hA1; ?_
        obtain rfl := Option.some.inj h
        exact ImpX.here ⟨_, .cons (.tmp _ _ rfl) .nil, rfl⟩
      · refine have h := iteF hc h; tK <| ATodo.blk <| tR <| ARun.qv (q_addw rfl rfl) rfl <| rM rfl rfl <| rN <| ATodo.stop <| ?_
        obtain rfl := Option.some.inj h
        exact hJ1 _ _ rfl <| ImpX.lq [] rfl rfl rfl
    · refine have h := iteF hc h; ATodo.exit rfl <| have h := outL h hA1; tSR <| rA rfl rfl <| rN <| ATodo.ret <| ?_
      obtain rfl := Option.some.inj h
      exact ImpX.here ⟨_, .cons (.tmp _ _ rfl) .nil, rfl⟩

set_option maxHeartbeats 4000000 in
theorem Q_Key_c [GI : GTab] {p0x0 : Str} {r : Bool} (h : Q_Key p0x0 = some r) : Pu Try.prog 54 [.str p0x0] (.bool r) := by
  unfold Q_Key at h
  refine ACall.bodyN Try.func54 rfl Try.ntmps54 Try.results54 rfl rfl ?_
  refine tSR <| rA rfl rfl <| rN <| tS <| ATodo.cut (fun σ' => ∃ (c1 : Bool), Q_Key_j1 c1 = some r ∧ σ' = ⟨15, [(2, .bool c1)], []⟩) ?_ ?_
  · refine tR <| rM rfl rfl <| ARun.qv (q_len_str rfl) rfl <| r_callp rfl (Q_in_c rfl) (CoL.refl _) rfl <| rM rfl rfl <| ARun.guard rfl rfl rfl (fun hc => ?_) (fun hc => ?_)
    · refine have h := iteT hc h; rM rfl rfl <| rY rfl rfl rfl <| bndE h fun l2 e1 h => ARun.qv (t_slice_str rfl .none (.some _ _ _ rfl) rfl rfl e1) rfl <| rY rfl rfl rfl <| bndE h fun v3 e2 h => r_callp rfl (Q_only_c e2) (CoL.refl _) rfl <| rT rfl rfl rfl <| rM rfl rfl <| ARun.guard rfl rfl rfl (fun hc => ?_) (fun hc => ?_)
      · exact have h := iteT hc h; rM rfl rfl <| rY rfl rfl rfl <| bndE h fun v4 e3 h => r_callp rfl (Q_only_c e3) (CoL.refl _) rfl <| rT rfl rfl rfl <| rA rfl rfl <| rN <| ATodo.stop <| ImpX.lq [] ⟨v4, h, rfl⟩ rfl rfl
      · exact have h := iteFb hc h; rG rfl rfl rfl rfl <| rE rfl rfl rfl <| rA rfl rfl <| rN <| ATodo.stop <| ImpX.lq [] ⟨false, h, rfl⟩ rfl rfl
    · exact have h := iteFb hc h; rG rfl rfl rfl rfl <| rG rfl rfl rfl rfl <| rE rfl rfl rfl <| rM rfl rfl <| rG rfl rfl rfl rfl <| rG rfl rfl rfl rfl <| rE rfl rfl rfl <| rA rfl rfl <| rN <| ATodo.stop <| ImpX.lq [] ⟨false, h, rfl⟩ rfl rfl
  · rintro σ' ⟨c1, h, rfl⟩
    unfold Q_Key_j1 at h
    refine ATodo.ret <| ?_
    obtain rfl := Option.some.inj h
    exact ImpX.here ⟨_, .cons (.tmp _ _ rfl) .nil, rfl⟩

set_option maxHeartbeats 4000000 in
theorem Q_Moment_c [GI : GTab] {p0x0 : Int} {r : Bool} (h : Q_Moment p0x0 = r) : Pu Try.prog 55 [I p0x0] (.bool r) := by
  unfold Q_Moment at h
  refine ACall.bodyN Try.func55 rfl Try.ntmps55 Try.results55 rfl rfl ?_
  refine tSR <| rA rfl rfl <| rN <| tSR <| rM rfl rfl <| r_callp rfl (Q_in_c rfl) (CoL.refl _) rfl <| rA rfl rfl <| rN <| ATodo.ret <| ?_
  obtain rfl := h
  exact ImpX.here ⟨_, .cons (.tmp _ _ rfl) .nil, rfl⟩

set_option maxHeartbeats 4000000 in
theorem cmp_isNaN_string_c [GI : GTab] {p0x0 : Str} {r : Bool} (h : cmp_isNaN_string p0x0 = r) : Pu Try.prog 97 [.str p0x0] (.bool r) := by
  unfold cmp_isNaN_string at h
  refine ACall.bodyN Try.func97 rfl Try.ntmps97 Try.results97 rfl rfl ?_
  refine tSR <| rA rfl rfl <| rN <| tSR <| rM rfl rfl <| rM rfl rfl <| ARun.qv (q_sne rfl rfl) rfl <| rA rfl rfl <| rN <| ATodo.ret <| ?_
  obtain rfl := h
  exact ImpX.here ⟨_, .cons (.tmp _ _ rfl) .nil, rfl⟩

set_option maxHeartbeats 4000000 in
theorem cmp_Compare_string_c [GI : GTab] {p0x0 : Str} {p1x0 : Str} {r : Int} (h : cmp_Compare_string p0x0 p1x0 = r) : Pu Try.prog 82 [.str p0x0, .str p1x0] (I r) := by
  unfold cmp_Compare_string at h
  refine ACall.bodyN Try.func82 rfl Try.ntmps82 Try.results82 rfl rfl ?_
  refine tSR <| rA rfl rfl <| rN <| tSR <| rM rfl rfl <| r_callp rfl (cmp_isNaN_string_c rfl) (CoL.refl _) rfl <| rA rfl rfl <| rN <| tSR <| rM rfl rfl <| r_callp rfl (cmp_isNaN_string_c rfl) (CoL.refl _) rfl <| rA rfl rfl <| rN <| tS <| tSR <| rM rfl rfl <| rN <| ATodo.cond rfl (fun hc => ?_) (fun hc => ?_)
  · refine have h := iteT hc h; tS <| tSR <| rM rfl rfl <| rN <| ATodo.cond rfl (fun hc => ?_) (fun hc => ?_)
    · refine have h := iteT hc h; tSR <| rA rfl rfl <| rN <| ATodo.ret <| ?_
      obtain rfl := h
      exact ImpX.here ⟨_, .cons (.tmp _ _ rfl) .nil, rfl⟩
    · refine have h := iteFb hc h; tK <| tSR <| rA rfl rfl <| rN <| ATodo.ret <| ?_
      obtain rfl := h
      exact ImpX.here ⟨_, .cons (.tmp _ _ rfl) .nil, rfl⟩
  · refine have h := iteFb hc h; tK <| tS <| tSR <| rM rfl rfl <| rN <| ATodo.cond rfl (fun hc => ?_) (fun hc => ?_)
    · refine have h := iteT hc h; tSR <| rA rfl rfl <| rN <| ATodo.ret <| ?_
      obtain rfl := h
      exact ImpX.here ⟨_, .cons (.tmp _ _ rfl) .nil, rfl⟩
    · refine have h := iteFb hc h; tK <| tS <| tSR <| rM rfl rfl <| rM rfl rfl <| ARun.qv (t_slss rfl rfl) rfl <| rN <| ATodo.cond rfl (fun hc => ?_) (fun hc => ?_)
      · refine have h := iteT hc h; tSR <| rA rfl rfl <| rN <| ATodo.ret <| ?_
        obtain rfl := h
        exact ImpX.here ⟨_, .cons (.tmp _ _ rfl) .nil, rfl⟩
      · refine have h := iteFb hc h; tK <| tS <| tSR <| rM rfl rfl <| rM rfl rfl <| ARun.qv (t_sgtr rfl rfl) rfl <| rN <| ATodo.cond rfl (fun hc => ?_) (fun hc => ?_)
        · refine have h := iteT hc h; tSR <| rA rfl rfl <| rN <| ATodo.ret <| ?_
          obtain rfl := h
          exact ImpX.here ⟨_, .cons (.tmp _ _ rfl) .nil, rfl⟩
        · refine have h := iteFb hc h; tK <| tSR <| rA rfl rfl <| rN <| ATodo.ret <| ?_
          obtain rfl := h
          exact ImpX.here ⟨_, .cons (.tmp _ _ rfl) .nil, rfl⟩

set_option maxHeartbeats 4000000 in
theorem slices_Compare_string_string_c [GI : GTab] {p0x0 : List Str} {p1x0 : List Str} {r : Int} (h : slices_Compare_string_string p0x0 p1x0 = some r) : Pu Try.prog 73 [.list 1 (p0x0.map AV.str), .list 1 (p1x0.map AV.str)] (I r) := by
  unfold slices_Compare_string_string at h
  refine ACall.bodyN Try.func73 rfl Try.ntmps73 Try.results73 rfl rfl ?_
  refine tSR <| rA rfl rfl <| rN <| tS <| tSR <| rM rfl rfl <| ARun.qv (t_len rfl) rfl <| rM rfl rfl <| rN <| ATodo.block <| ATodo.loopI (fun x : Int => slices_Compare_string_string_b1 p0x0 p1x0 x) (fun x σ' => σ' = ⟨36, [(0, .list 1 (p0x0.map AV.str)), (1, .list 1 (p1x0.map AV.str)), (9, .list 1 (p0x0.map AV.str)), (10, I (p0x0.length : Int)), (11, I x)], []⟩) h ?_ ?_
  · exact ImpX.lq [] rfl rfl rfl
  · intro n2 z1 σ' J1 hmk h hJ1 hA1
    obtain rfl := hmk
    replace h : slices_Compare_string_string_b1 p0x0 p1x0 n2 = some z1 := h
    unfold slices_Compare_string_string_b1 at h
    refine tSR <| ARun.qv (q_lss rfl rfl) rfl <| rN <| tS <| ATodo.cond_d rfl (fun hc => ?_) (fun hc => ?_)
    · refine have h := iteT hc h; tK <| tS <| ATodo.block <| tSR <| rM rfl rfl <| bndE h fun v3 e1 h => ARun.qv (t_index rfl rfl rfl e1 rfl rfl) rfl <| ARun.qv (q_load_rptr rfl rfl rfl) rfl <| rA rfl rfl <| rA rfl rfl <| rN <| tS <| tSR <| rM rfl rfl <| rM rfl rfl <| ARun.qv (t_len rfl) rfl <| ARun.qv (q_geq rfl rfl) rfl <| rN <| ATodo.cond_d rfl (fun hc => ?_) (fun hc => ?_)
      · refine have h := iteT hc h; tSR <| rA rfl rfl <| rN <| ATodo.ret <| have h := outL h hA1; ?_
        obtain rfl := Option.some.inj h
        exact ImpX.here ⟨_, .cons (.tmp _ _ rfl) .nil, rfl⟩
      · refine have h := iteF hc h; tK <| tSR <| rM rfl rfl <| rM rfl rfl <| bndE h fun v4 e2 h => ARun.qv (t_index rfl rfl rfl e2 rfl rfl) rfl <| ARun.qv (q_load_rptr rfl rfl rfl) rfl <| rA rfl rfl <| rN <| tSR <| rM rfl rfl <| rM rfl rfl <| r_callp rfl (cmp_Compare_string_c rfl) (CoL.refl _) rfl <| rA rfl rfl <| rN <| tSR <| rM rfl rfl <| ARun.qv (q_neq rfl rfl) rfl <| rN <| ATodo.cond_d rfl (fun hc => ?_) (fun hc => ?_)
        · refine have h := iteT hc h; tSR <| rM rfl rfl <| rA rfl rfl <| rN <| ATodo.ret <| have h := outL h hA1; ?_
          obtain rfl := Option.some.inj h
          exact ImpX.here ⟨_, .cons (.tmp _ _ rfl) .nil, rfl⟩
        · refine have h := iteF hc h; tK <| ATodo.blk <| tR <| ARun.qv (q_addw rfl rfl) rfl <| rM rfl rfl <| rN <| ATodo.stop <| ?_
          obtain rfl := Option.some.inj h
          exact hJ1 _ _ rfl <| ImpX.lq [] rfl rfl rfl
    · refine have h := iteF hc h; ATodo.exit rfl <| have h := outL h hA1; ?_
      unfold slices_Compare_string_string_k1 at h
      refine tS <| tSR <| rM rfl rfl <| ARun.qv (t_len rfl) rfl <| rM rfl rfl <| ARun.qv (t_len rfl) rfl <| ARun.qv (q_lss rfl rfl) rfl <| rN <| ATodo.cond_d rfl (fun hc => ?_) (fun hc => ?_)
      · refine have h := iteT hc h; tSR <| rA rfl rfl <| rN <| ATodo.ret <| ?_
        obtain rfl := Option.some.inj h
        exact ImpX.here ⟨_, .cons (.tmp _ _ rfl) .nil, rfl⟩
      · refine have h := iteF hc h; tK <| tSR <| rA rfl rfl <| rN <| ATodo.ret <| ?_
        obtain rfl := Option.some.inj h
        exact ImpX.here ⟨_, .cons (.tmp _ _ rfl) .nil, rfl⟩

set_option maxHeartbeats 4000000 in
theorem Q_sign_c [GI : GTab] {p0x0 : Int} {r : Int} (h : Q_sign p0x0 = r) : Pu Try.prog 66 [I p0x0] (I r) := by
  unfold Q_sign at h
  refine ACall.bodyN Try.func66 rfl Try.ntmps66 Try.results66 rfl rfl ?_
  refine tSR <| rA rfl rfl <| rN <| tS <| ATodo.block <| tSR <| rM rfl rfl <| ARun.qv (q_lss rfl rfl) rfl <| rA rfl rfl <| rN <| ATodo.cond_d rfl (fun hc => ?_) (fun hc => ?_)
  · refine have h := iteT hc h; tSR <| rA rfl rfl <| rN <| ATodo.ret <| ?_
    obtain rfl := h
    exact ImpX.here ⟨_, .cons (.tmp _ _ rfl) .nil, rfl⟩
  · refine have h := iteF hc h; tSR <| rM rfl rfl <| ARun.qv (q_gtr rfl rfl) rfl <| rA rfl rfl <| rN <| ATodo.cond_d rfl (fun hc => ?_) (fun hc => ?_)
    · refine have h := iteT hc h; tSR <| rA rfl rfl <| rN <| ATodo.ret <| ?_
      obtain rfl := h
      exact ImpX.here ⟨_, .cons (.tmp _ _ rfl) .nil, rfl⟩
    · refine have h := iteF hc h; tK <| ATodo.blk <| tSR <| rA rfl rfl <| rN <| ATodo.ret <| ?_
      obtain rfl := h
      exact ImpX.here ⟨_, .cons (.tmp _ _ rfl) .nil, rfl⟩

set_option maxHeartbeats 4000000 in
theorem Q_SampleOrder_c [GI : GTab] {p0x0 : Sample} {p1x0 : Sample} {r : Int} (h : Q_SampleOrder p0x0 p1x0 = some r) : Pu Try.prog 56 [.agg [.str p0x0.Device, .str p0x0.Metric, I p0x0.At, I p0x0.Value], .agg [.str p1x0.Device, .str p1x0.Metric, I p1x0.At, I p1x0.Value]] (I r) := by
  unfold Q_SampleOrder at h
  refine ACall.bodyN Try.func56 rfl Try.ntmps56 Try.results56 rfl rfl ?_
  refine tSR <| n_box rfl rfl rfl rfl fun b1 => n_box rfl rfl rfl rfl fun b2 => rA rfl rfl <| rN <| tS <| tSR <| rF rfl rfl rfl <| rL rfl rfl .p1 rfl rfl <| rF rfl rfl rfl <| rL rfl rfl .p1 rfl rfl <| n_buildSliceL (xs := ([p0x0.Device, p0x0.Metric] : List Str).map AV.str) rfl rfl rfl rfl rfl rfl <| rF rfl rfl rfl <| rL rfl rfl .p0 rfl rfl <| rF rfl rfl rfl <| rL rfl rfl .p0 rfl rfl <| n_buildSliceL (xs := ([p1x0.Device, p1x0.Metric] : List Str).map AV.str) rfl rfl rfl rfl rfl rfl <| bndE h fun v3 e1 h => r_callp rfl (slices_Compare_string_string_c e1) (CoL.refl _) rfl <| rA rfl rfl <| rN <| tSR <| rM rfl rfl <| ARun.qv (q_neq rfl rfl) rfl <| rN <| ATodo.cond_d rfl (fun hc => ?_) (fun hc => ?_)
  · refine have h := iteT hc h; tSR <| rM rfl rfl <| rA rfl rfl <| rN <| ATodo.ret <| ?_
    obtain rfl := Option.some.inj h
    exact ImpX.here ⟨_, .cons (.tmp _ _ rfl) .nil, rfl⟩
  · refine have h := iteF hc h; tK <| tSR <| rF rfl rfl rfl <| rL rfl rfl .p1 rfl rfl <| rF rfl rfl rfl <| rL rfl rfl .p0 rfl rfl <| ARun.qv (q_subw rfl rfl) rfl <| r_callp rfl (Q_sign_c rfl) (CoL.refl _) rfl <| rA rfl rfl <| rN <| ATodo.ret <| ?_
    obtain rfl := Option.some.inj h
    exact ImpX.here ⟨_, .cons (.tmp _ _ rfl) .nil, rfl⟩

set_option maxHeartbeats 4000000 in
theorem Q_SamplesFault_c [GI : GTab] {p0x0 : List Sample} {r : Int} (h : Q_SamplesFault p0x0 = some r) : Pu Try.prog 35 [.list 4 (p0x0.map Sample.av)] (I r) := by
  unfold Q_SamplesFault at h
  refine ACall.bodyN Try.func35 rfl Try.ntmps35 Try.results35 rfl rfl ?_
  refine tSR <| rA rfl rfl <| rN <| tS <| tSR <| rM rfl rfl <| ARun.qv (t_len rfl) rfl <| ARun.qv (q_gtr rfl rfl) rfl <| rN <| ATodo.cond_d rfl (fun hc => ?_) (fun hc => ?_)
  · refine have h := iteT hc h; tSR <| rA rfl rfl <| rN <| ATodo.ret <| ?_
    obtain rfl := Option.some.inj h
    exact ImpX.here ⟨_, .cons (.tmp _ _ rfl) .nil, rfl⟩
  · refine have h := iteF hc h; tK <| tS <| tSR <| rM rfl rfl <| ARun.qv (t_len rfl) rfl <| rM rfl rfl <| rN <| ATodo.block <| ATodo.loopI (fun x : Int => Q_SamplesFault_b1 p0x0 x) (fun x σ' => σ' = ⟨51, [(0, .list 4 (p0x0.map Sample.av)), (8, .list 4 (p0x0.map Sample.av)), (9, I (p0x0.length : Int)), (10, I x)], []⟩) h ?_ ?_
    · exact ImpX.lq [] rfl rfl rfl
    · intro n2 z1 σ' J1 hmk h hJ1 hA1
      obtain rfl := hmk
      replace h : Q_SamplesFault_b1 p0x0 n2 = some z1 := h
      unfold Q_SamplesFault_b1 at h
      refine tSR <| ARun.qv (q_lss rfl rfl) rfl <| rN <| tS <| ATodo.cond_d rfl (fun hc => ?_) (fun hc => ?_)
      · refine have h := iteT hc h; tK <| tS <| ATodo.block <| tSR <| rM rfl rfl <| bndE h fun v3 e1 h => ARun.qv (t_index rfl rfl rfl e1 rfl rfl) rfl <| ARun.qv (q_load_rptr_agg rfl rfl rfl) rfl <| n_alloc rfl rfl rfl rfl fun b4 => rA rfl rfl <| n_store_ptr rfl rfl rfl rfl .p0 rfl rfl <| rN <| ATodo.block <| tS <| ATodo.cut (fun σ' => ∃ (c5 : Bool), Q_SamplesFault_j1 p0x0 n2 v3 c5 = some z1 ∧ σ' = ⟨51, [(0, .list 4 (p0x0.map Sample.av)), (3, I n2), (4, .ptr b4 0), (8, .list 4 (p0x0.map Sample.av)), (9, I (p0x0.length : Int)), (10, I n2), (15, .bool c5)], [(b4, .cells [.str v3.Device, .str v3.Metric, I v3.At, I v3.Value])]⟩) ?_ ?_
        · refine tR <| rF rfl rfl rfl <| rL rfl rfl .p0 rfl rfl <| bndE h fun v6 e2 h => r_callp rfl (Q_Key_c e2) (CoL.refl _) rfl <| ARun.qv (q_not rfl) rfl <| rM rfl rfl <| ARun.guard rfl rfl rfl (fun hc => ?_) (fun hc => ?_)
          · exact have h := iteFb hc h; rF rfl rfl rfl <| rY rfl rfl rfl <| rL rfl rfl .p0 rfl rfl <| rY rfl rfl rfl <| bndE h fun v7 e3 h => r_callp rfl (Q_Key_c e3) (CoL.refl _) rfl <| rY rfl rfl rfl <| ARun.qv (q_not rfl) rfl <| rE rfl rfl rfl <| rA rfl rfl <| rN <| ATodo.stop <| ImpX.lq [0] ⟨!v7, h, rfl⟩ rfl rfl
          · exact have h := iteT hc h; rG rfl rfl rfl rfl <| rG rfl rfl rfl rfl <| rG rfl rfl rfl rfl <| rT rfl rfl rfl <| rA rfl rfl <| rN <| ATodo.stop <| ImpX.lq [0] ⟨true, h, rfl⟩ rfl rfl
        · rintro σ' ⟨c5, h, rfl⟩
          unfold Q_SamplesFault_j1 at h
          refine ATodo.cond rfl (fun hc => ?_) (fun hc => ?_)
          · refine have h := iteT hc h; tSR <| rA rfl rfl <| rN <| ATodo.ret <| have h := outL h hA1; ?_
            obtain rfl := Option.some.inj h
            exact ImpX.here ⟨_, .cons (.tmp _ _ rfl) .nil, rfl⟩
          · refine have h := iteFb hc h; tS <| ATodo.cut (fun σ' => ∃ (c8 : Bool), Q_SamplesFault_j2 p0x0 n2 v3 c8 = some z1 ∧ σ' = ⟨51, [(0, .list 4 (p0x0.map Sample.av)), (3, I n2), (4, .ptr b4 0), (8, .list 4 (p0x0.map Sample.av)), (9, I (p0x0.length : Int)), (10, I n2), (26, .bool c8)], [(b4, .cells [.str v3.Device, .str v3.Metric, I v3.At, I v3.Value])]⟩) ?_ ?_
            · refine tR <| rF rfl rfl rfl <| rL rfl rfl .p0 rfl rfl <| r_callp rfl (Q_Moment_c rfl) (CoL.refl _) rfl <| ARun.qv (q_not rfl) rfl <| rM rfl rfl <| ARun.guard rfl rfl rfl (fun hc => ?_) (fun hc => ?_)
              · rw [orFb hc] at h
                exact rF rfl rfl rfl <| rY rfl rfl rfl <| rL rfl rfl .p0 rfl rfl <| rY rfl rfl rfl <| r_callp rfl (Q_in_c rfl) (CoL.refl _) rfl <| rY rfl rfl rfl <| ARun.qv (q_not rfl) rfl <| rE rfl rfl rfl <| rA rfl rfl <| rN <| ATodo.stop <| ImpX.lq [0] ⟨!(Q_in v3.Value (-1000000000 : Int) (1000000000 : Int)), h, rfl⟩ rfl rfl
              · rw [orTb hc] at h
                exact rG rfl rfl rfl rfl <| rG rfl rfl rfl rfl <| rG rfl rfl rfl rfl <| rT rfl rfl rfl <| rA rfl rfl <| rN <| ATodo.stop <| ImpX.lq [0] ⟨true, h, rfl⟩ rfl rfl
            · rintro σ' ⟨c8, h, rfl⟩
              unfold Q_SamplesFault_j2 at h
              refine ATodo.cond rfl (fun hc => ?_) (fun hc => ?_)
              · refine have h := iteT hc h; tSR <| rA rfl rfl <| rN <| ATodo.ret <| have h := outL h hA1; ?_
                obtain rfl := Option.some.inj h
                exact ImpX.here ⟨_, .cons (.tmp _ _ rfl) .nil, rfl⟩
              · refine have h := iteFb hc h; tS <| ATodo.cut (fun σ' => ∃ (c9 : Bool), Q_SamplesFault_j3 n2 c9 = some z1 ∧ σ' = ⟨51, [(0, .list 4 (p0x0.map Sample.av)), (8, .list 4 (p0x0.map Sample.av)), (9, I (p0x0.length : Int)), (10, I n2), (37, .bool c9)], []⟩) ?_ ?_
                · refine ATodo.regionM (id := 10) (A := [0, 1, 3, 7, 7, 23, 63, 127, 7, 511, 1023, 2047, 4095]) 13 mixed rfl (by kernel_rfl) (by kernel_rfl) <| AM.qv (q_move rfl) rfl <| AM.qv (q_gtr rfl rfl) rfl <| AM.qv (q_move rfl) rfl <| AM.guard_dt rfl rfl rfl (fun hc => ?_) (fun hc => ?_)
                  · exact have h := iteT hc h; AM.qv (q_move rfl) rfl <| AM.guard_yes rfl rfl rfl <| AM.qv (q_move rfl) rfl <| AM.guard_yes rfl rfl rfl <| AM.qv (q_subw rfl rfl) rfl <| AM.guard_yes rfl rfl rfl <| bndE h fun v10 e4 h => AM.qv (t_index rfl rfl rfl e4 rfl rfl) rfl <| AM.guard_yes rfl rfl rfl <| AM.qv (q_load_rptr_agg rfl rfl rfl) rfl <| AM.guard_yes rfl rfl rfl <| AM.qv (q_load_ptr_all rfl rfl .p0 rfl) rfl <| AM.guard_yes rfl rfl rfl <| bndE h fun v11 e5 h => AM.callp rfl (Q_SampleOrder_c e5) (CoL.refl _) rfl <| AM.guard_yes rfl rfl rfl <| AM.qv (q_geq rfl rfl) rfl <| AM.qv (q_pick_t rfl rfl) rfl <| AM.qv (q_assign rfl) rfl <| AM.nil <| rN <| ATodo.stop <| ImpX.lq [] ⟨decide ((0 : Int) ≤ v11), h, rfl⟩ rfl rfl
                  · exact have h := iteF hc h; AM.guard_no rfl rfl rfl rfl <| AM.guard_no rfl rfl rfl rfl <| AM.guard_no rfl rfl rfl rfl <| AM.guard_no rfl rfl rfl rfl <| AM.guard_no rfl rfl rfl rfl <| AM.guard_no rfl rfl rfl rfl <| AM.guard_no rfl rfl rfl rfl <| AM.qv (q_pick_f rfl rfl) rfl <| AM.qv (q_assign rfl) rfl <| AM.nil <| rN <| ATodo.stop <| ImpX.lq [] ⟨false, h, rfl⟩ rfl rfl
                · rintro σ' ⟨c9, h, rfl⟩
                  unfold Q_SamplesFault_j3 at h
                  refine ATodo.cond rfl (fun hc => ?_) (fun hc => ?_)
                  · refine have h := iteT hc h; tSR <| rA rfl rfl <| rN <| ATodo.ret <| have h := outL h hA1; ?_
                    obtain rfl := Option.some.inj h
                    exact ImpX.here ⟨_, .cons (.tmp _ _ rfl) .nil, rfl⟩
                  · refine have h := iteFb hc h; tK <| ATodo.blk <| ATodo.blk <| tR <| ARun.qv (q_addw rfl rfl) rfl <| rM rfl rfl <| rN <| ATodo.stop <| ?_
                    obtain rfl := Option.some.inj h
                    exact hJ1 _ _ rfl <| ImpX.lq [] rfl rfl rfl
      · refine have h := iteF hc h; ATodo.exit rfl <| have h := outL h hA1; tSR <| rA rfl rfl <| rN <| ATodo.ret <| ?_
        obtain rfl := Option.some.inj h
        exact ImpX.here ⟨_, .cons (.tmp _ _ rfl) .nil, rfl⟩

set_option maxHeartbeats 4000000 in
theorem Q_SeriesFault_1x_c [GI : GTab] {p0x0 : Sample} {p1x0 : List Sample} {r : Bool} (h : Q_SeriesFault_1x p0x0 p1x0 = some r) : Pu Try.prog 37 [.agg [.str p0x0.Device, .str p0x0.Metric, I p0x0.At, I p0x0.Value], .rptr [.list 4 (p1x0.map Sample.av)]] (.bool r) := by
  unfold Q_SeriesFault_1x at h
  refine ACall.bodyN Try.func37 rfl Try.ntmps37 Try.results37 rfl rfl ?_
  refine tSR <| n_box rfl rfl rfl rfl fun b1 => rA rfl rfl <| rN <| tS <| ATodo.cut (fun σ' => ∃ (c2 : Bool), Q_SeriesFault_1x_j1 c2 = some r ∧ σ' = ⟨20, [(3, .bool c2)], []⟩) ?_ ?_
  · refine ATodo.regionM (id := 1) (A := [0, 1, 0, 4, 12, 28, 63, 127, 255, 511, 255, 1279, 3327, 7423, 16383, 32767, 65535]) 17 mixed rfl (by kernel_rfl) (by kernel_rfl) <| AM.qv (n_field_ptr rfl rfl) rfl <| AM.qv (q_load_ptr rfl rfl .p0 rfl) rfl <| AM.qv (q_load_rptr rfl rfl rfl) rfl <| bndE h fun v3 e1 h => AM.qv (t_index rfl rfl rfl e1 rfl rfl) rfl <| AM.qv (n_field_rptr rfl rfl) rfl <| AM.qv (q_load_rptr rfl rfl rfl) rfl <| AM.qv (q_sne rfl rfl) rfl <| AM.qv (q_move rfl) rfl <| AM.guard_df rfl rfl rfl (fun hc => ?_) (fun hc => ?_)
    · exact have h := iteF hc h; AM.qv (n_field_ptr rfl rfl) rfl <| AM.guard_yes rfl rfl rfl <| AM.qv (q_load_ptr rfl rfl .p0 rfl) rfl <| AM.guard_yes rfl rfl rfl <| AM.qv (q_load_rptr rfl rfl rfl) rfl <| AM.guard_yes rfl rfl rfl <| bndE h fun v4 e2 h => AM.qv (t_index rfl rfl rfl e2 rfl rfl) rfl <| AM.guard_yes rfl rfl rfl <| AM.qv (n_field_rptr rfl rfl) rfl <| AM.guard_yes rfl rfl rfl <| AM.qv (q_load_rptr rfl rfl rfl) rfl <| AM.guard_yes rfl rfl rfl <| AM.qv (q_sne rfl rfl) rfl <| AM.qv (q_pick_f rfl rfl) rfl <| AM.qv (q_assign rfl) rfl <| AM.nil <| rN <| ATodo.stop <| ImpX.lq [] ⟨decide (p0x0.Metric ≠ v4.Metric), h, rfl⟩ rfl rfl
    · exact have h := iteT hc h; AM.guard_no rfl rfl rfl rfl <| AM.guard_no rfl rfl rfl rfl <| AM.guard_no rfl rfl rfl rfl <| AM.guard_no rfl rfl rfl rfl <| AM.guard_no rfl rfl rfl rfl <| AM.guard_no rfl rfl rfl rfl <| AM.qv (q_pick_t rfl rfl) rfl <| AM.qv (q_assign rfl) rfl <| AM.nil <| rN <| ATodo.stop <| ImpX.lq [] ⟨true, h, rfl⟩ rfl rfl
  · rintro σ' ⟨c2, h, rfl⟩
    unfold Q_SeriesFault_1x_j1 at h
    refine ATodo.ret <| ?_
    obtain rfl := Option.some.inj h
    exact ImpX.here ⟨_, .cons (.tmp _ _ rfl) .nil, rfl⟩

set_option maxHeartbeats 4000000 in
theorem Q_SeriesFault_c [GI : GTab] {p0x0 : List Sample} {r : Int} (h : Q_SeriesFault p0x0 = some r) : Pu Try.prog 10 [.list 4 (p0x0.map Sample.av)] (I r) := by
  unfold Q_SeriesFault at h
  refine ACall.bodyN Try.func10 rfl Try.ntmps10 Try.results10 rfl rfl ?_
  refine tSR <| n_box rfl rfl rfl rfl fun b1 => rA rfl rfl <| rN <| tS <| tSR <| rL rfl rfl .p0 rfl rfl <| bndE h fun v2 e1 h => r_callp rfl (Q_SamplesFault_c e1) (CoL.refl _) rfl <| rA rfl rfl <| rN <| tSR <| rM rfl rfl <| ARun.qv (q_neq rfl rfl) rfl <| rN <| ATodo.cond_d rfl (fun hc => ?_) (fun hc => ?_)
  · refine have h := iteT hc h; tSR <| rM rfl rfl <| rA rfl rfl <| rN <| ATodo.ret <| ?_
    obtain rfl := Option.some.inj h
    exact ImpX.here ⟨_, .cons (.tmp _ _ rfl) .nil, rfl⟩
  · refine have h := iteF hc h; tK <| tS <| tSR <| rL rfl rfl .p0 rfl rfl <| ARun.qv (q_makeFunc rfl) rfl <| bndE h fun v3 e2 h => r_callpB rfl (slices_ContainsFunc_Sample_Sample_c (fun e => Q_SeriesFault_1x_c e) e2) (.cons (.co (.refl _)) (.cons (.funcL _ _ _ (.cons (.boxL _ _ _ .p0 (.cons (.co (.refl _)) .nil)) .nil)) .nil)) rfl rfl <| rN <| ATodo.cond rfl (fun hc => ?_) (fun hc => ?_)
    · refine have h := iteT hc h; tSR <| rA rfl rfl <| rN <| ATodo.ret <| ?_
      obtain rfl := Option.some.inj h
      exact ImpX.here ⟨_, .cons (.tmp _ _ rfl) .nil, rfl⟩
    · refine have h := iteFb hc h; tK <| tSR <| rA rfl rfl <| rN <| ATodo.ret <| ?_
      obtain rfl := Option.some.inj h
      exact ImpX.here ⟨_, .cons (.tmp _ _ rfl) .nil, rfl⟩

set_option maxHeartbeats 4000000 in
theorem Q_WindowFault_c [GI : GTab] {p0x0 : Window} {r : Int} (h : Q_WindowFault p0x0 = r) : Pu Try.prog 11 [.agg [I p0x0.From, I p0x0.To]] (I r) := by
  unfold Q_WindowFault at h
  refine ACall.bodyN Try.func11 rfl Try.ntmps11 Try.results11 rfl rfl ?_
  refine tSR <| n_box rfl rfl rfl rfl fun b1 => rA rfl rfl <| rN <| tS <| tS <| ATodo.cut (fun σ' => ∃ (c2 : Bool), Q_WindowFault_j1 c2 = r ∧ σ' = ⟨14, [(13, .bool c2)], []⟩) ?_ ?_
  · refine tR <| rF rfl rfl rfl <| rL rfl rfl .p0 rfl rfl <| rF rfl rfl rfl <| rL rfl rfl .p0 rfl rfl <| r_callp rfl (Q_in_c rfl) (CoL.refl _) rfl <| ARun.qv (q_not rfl) rfl <| rM rfl rfl <| ARun.guard rfl rfl rfl (fun hc => ?_) (fun hc => ?_)
    · rw [orFb hc] at h
      exact rF rfl rfl rfl <| rY rfl rfl rfl <| rL rfl rfl .p0 rfl rfl <| rY rfl rfl rfl <| ARun.qv (q_gtr rfl rfl) rfl <| rE rfl rfl rfl <| rN <| ATodo.stop <| ImpX.lq [] ⟨decide ((345686400000 : Int) < p0x0.To), h, rfl⟩ rfl rfl
    · rw [orTb hc] at h
      exact rG rfl rfl rfl rfl <| rG rfl rfl rfl rfl <| rT rfl rfl rfl <| rN <| ATodo.stop <| ImpX.lq [] ⟨true, h, rfl⟩ rfl rfl
  · rintro σ' ⟨c2, h, rfl⟩
    unfold Q_WindowFault_j1 at h
    refine ATodo.cond rfl (fun hc => ?_) (fun hc => ?_)
    · refine have h := iteT hc h; tSR <| rA rfl rfl <| rN <| ATodo.ret <| ?_
      obtain rfl := h
      exact ImpX.here ⟨_, .cons (.tmp _ _ rfl) .nil, rfl⟩
    · refine have h := iteFb hc h; tK <| tSR <| rA rfl rfl <| rN <| ATodo.ret <| ?_
      obtain rfl := h
      exact ImpX.here ⟨_, .cons (.tmp _ _ rfl) .nil, rfl⟩

set_option maxHeartbeats 4000000 in
theorem L_when_c [GI : GTab] {p0x0 : Bool} {p1x0 : Int} {r : Int} (h : L_when p0x0 p1x0 = r) : Pu Try.prog 12 [.bool p0x0, I p1x0] (I r) := by
  unfold L_when at h
  refine ACall.bodyN Try.func12 rfl Try.ntmps12 Try.results12 rfl rfl ?_
  refine tSR <| rA rfl rfl <| rN <| tS <| tSR <| rM rfl rfl <| rN <| ATodo.cond rfl (fun hc => ?_) (fun hc => ?_)
  · refine have h := iteT hc h; tSR <| rM rfl rfl <| rA rfl rfl <| rN <| ATodo.ret <| ?_
    obtain rfl := h
    exact ImpX.here ⟨_, .cons (.tmp _ _ rfl) .nil, rfl⟩
  · refine have h := iteFb hc h; tK <| tSR <| rA rfl rfl <| rN <| ATodo.ret <| ?_
    obtain rfl := h
    exact ImpX.here ⟨_, .cons (.tmp _ _ rfl) .nil, rfl⟩

set_option maxHeartbeats 4000000 in
theorem L_errs_c [GI : GTab] {p0x0 : List Int} {r : Int} (h : L_errs p0x0 = some r) : Pu Try.prog 9 [.list 1 (p0x0.map I)] (I r) := by
  unfold L_errs at h
  refine ACall.bodyN Try.func9 rfl Try.ntmps9 Try.results9 rfl rfl ?_
  refine tSR <| rA rfl rfl <| rN <| tS <| tSR <| rM rfl rfl <| ARun.qv (t_len rfl) rfl <| rM rfl rfl <| rN <| ATodo.block <| ATodo.loopI (fun x : Int => L_errs_b1 p0x0 x) (fun x σ' => σ' = ⟨15, [(5, .list 1 (p0x0.map I)), (6, I (p0x0.length : Int)), (7, I x)], []⟩) h ?_ ?_
  · exact ImpX.lq [] rfl rfl rfl
  · intro n2 z1 σ' J1 hmk h hJ1 hA1
    obtain rfl := hmk
    replace h : L_errs_b1 p0x0 n2 = some z1 := h
    unfold L_errs_b1 at h
    refine tSR <| ARun.qv (q_lss rfl rfl) rfl <| rN <| tS <| ATodo.cond_d rfl (fun hc => ?_) (fun hc => ?_)
    · refine have h := iteT hc h; tK <| tS <| ATodo.block <| tSR <| bndE h fun v3 e1 h => ARun.qv (t_index rfl rfl rfl e1 rfl rfl) rfl <| ARun.qv (q_load_rptr rfl rfl rfl) rfl <| rA rfl rfl <| rN <| tSR <| rM rfl rfl <| ARun.qv (q_neq rfl rfl) rfl <| rN <| ATodo.cond_d rfl (fun hc => ?_) (fun hc => ?_)
      · refine have h := iteT hc h; tSR <| rM rfl rfl <| rA rfl rfl <| rN <| ATodo.ret <| have h := outL h hA1; ?_
        obtain rfl := Option.some.inj h
        exact ImpX.here ⟨_, .cons (.tmp _ _ rfl) .nil, rfl⟩
      · refine have h := iteF hc h; tK <| ATodo.blk <| tR <| ARun.qv (q_addw rfl rfl) rfl <| rM rfl rfl <| rN <| ATodo.stop <| ?_
        obtain rfl := Option.some.inj h
        exact hJ1 _ _ rfl <| ImpX.lq [] rfl rfl rfl
    · refine have h := iteF hc h; ATodo.exit rfl <| have h := outL h hA1; tSR <| rA rfl rfl <| rN <| ATodo.ret <| ?_
      obtain rfl := Option.some.inj h
      exact ImpX.here ⟨_, .cons (.tmp _ _ rfl) .nil, rfl⟩

set_option maxHeartbeats 4000000 in
theorem Q_within_c [GI : GTab] {p0x0 : Int} {p1x0 : Window} {r : Bool} (h : Q_within p0x0 p1x0 = r) : Pu Try.prog 39 [I p0x0, .agg [I p1x0.From, I p1x0.To]] (.bool r) := by
  unfold Q_within at h
  refine ACall.bodyN Try.func39 rfl Try.ntmps39 Try.results39 rfl rfl ?_
  refine tSR <| n_box rfl rfl rfl rfl fun b1 => rA rfl rfl <| rN <| tS <| ATodo.cut (fun σ' => ∃ (c2 : Bool), Q_within_j1 c2 = r ∧ σ' = ⟨15, [(4, .bool c2)], []⟩) ?_ ?_
  · refine tR <| rF rfl rfl rfl <| rL rfl rfl .p0 rfl rfl <| rM rfl rfl <| ARun.qv (q_leq rfl rfl) rfl <| rM rfl rfl <| ARun.guard_dt rfl rfl rfl (fun hc => ?_) (fun hc => ?_)
    · rw [andTd hc] at h
      exact rM rfl rfl <| rY rfl rfl rfl <| rF rfl rfl rfl <| rY rfl rfl rfl <| rL rfl rfl .p0 rfl rfl <| rY rfl rfl rfl <| ARun.qv (q_lss rfl rfl) rfl <| rT rfl rfl rfl <| rA rfl rfl <| rN <| ATodo.stop <| ImpX.lq [] ⟨decide (p0x0 < p1x0.To), h, rfl⟩ rfl rfl
    · rw [andFd hc] at h
      exact rG rfl rfl rfl rfl <| rG rfl rfl rfl rfl <| rG rfl rfl rfl rfl <| rE rfl rfl rfl <| rA rfl rfl <| rN <| ATodo.stop <| ImpX.lq [] ⟨false, h, rfl⟩ rfl rfl
  · rintro σ' ⟨c2, h, rfl⟩
    unfold Q_within_j1 at h
    refine ATodo.ret <| ?_
    obtain rfl := h
    exact ImpX.here ⟨_, .cons (.tmp _ _ rfl) .nil, rfl⟩

set_option maxHeartbeats 4000000 in
theorem slices_Min_int_int_c [GI : GTab] {p0x0 : List Int} {r : Int} (h : slices_Min_int_int p0x0 = some r) : Pu Try.prog 58 [.list 1 (p0x0.map I)] (I r) := by
  unfold slices_Min_int_int at h
  refine ACall.bodyN Try.func58 rfl Try.ntmps58 Try.results58 rfl rfl ?_
  refine tSR <| rA rfl rfl <| rN <| tS <| tSR <| rM rfl rfl <| ARun.qv (t_len rfl) rfl <| ARun.qv (q_lss rfl rfl) rfl <| rN <| ATodo.cond_d rfl (fun hc => ?_) (fun hc => ?_)
  · refine have h := iteT hc h; tR <| ?_
    cases h
  · refine have h := iteF hc h; tK <| tSR <| rM rfl rfl <| bndE h fun v1 e1 h => ARun.qv (t_index rfl rfl rfl e1 rfl rfl) rfl <| ARun.qv (q_load_rptr rfl rfl rfl) rfl <| rA rfl rfl <| rN <| tS <| tSR <| rA rfl rfl <| rN <| ATodo.block <| ATodo.loopI (fun x : Int × Int => slices_Min_int_int_b1 p0x0 x.1 x.2) (fun x σ' => σ' = ⟨25, [(0, .list 1 (p0x0.map I)), (3, I x.1), (4, I x.2)], []⟩) h ?_ ?_
    · exact ImpX.lq [] rfl rfl rfl
    · intro x z1 σ' J1 hmk h hJ1 hA1
      obtain ⟨n4, n5⟩ := x
      obtain rfl := hmk
      replace h : slices_Min_int_int_b1 p0x0 n4 n5 = some z1 := h
      unfold slices_Min_int_int_b1 at h
      refine tS <| tSR <| rM rfl rfl <| rM rfl rfl <| ARun.qv (t_len rfl) rfl <| ARun.qv (q_lss rfl rfl) rfl <| rN <| ATodo.cond_d rfl (fun hc => ?_) (fun hc => ?_)
      · refine have h := iteT hc h; tK <| tS <| ATodo.block <| tR <| rM rfl rfl <| rM rfl rfl <| rM rfl rfl <| bndE h fun v6 e2 h => ARun.qv (t_index rfl rfl rfl e2 rfl rfl) rfl <| ARun.qv (q_load_rptr rfl rfl rfl) rfl <| ARun.qv (q_min rfl rfl) rfl <| rA rfl rfl <| rN <| ATodo.blk <| tR <| rM rfl rfl <| ARun.qv (q_addw rfl rfl) rfl <| rA rfl rfl <| rN <| ATodo.stop <| ?_
        obtain rfl := Option.some.inj h
        exact hJ1 _ _ rfl <| ImpX.lq [] rfl rfl rfl
      · refine have h := iteF hc h; ATodo.exit rfl <| have h := outL h hA1; tSR <| rM rfl rfl <| rA rfl rfl <| rN <| ATodo.ret <| ?_
        obtain rfl := Option.some.inj h
        exact ImpX.here ⟨_, .cons (.tmp _ _ rfl) .nil, rfl⟩

set_option maxHeartbeats 4000000 in
theorem slices_Max_int_int_c [GI : GTab] {p0x0 : List Int} {r : Int} (h : slices_Max_int_int p0x0 = some r) : Pu Try.prog 59 [.list 1 (p0x0.map I)] (I r) := by
  unfold slices_Max_int_int at h
  refine ACall.bodyN Try.func59 rfl Try.ntmps59 Try.results59 rfl rfl ?_
  refine tSR <| rA rfl rfl <| rN <| tS <| tSR <| rM rfl rfl <| ARun.qv (t_len rfl) rfl <| ARun.qv (q_lss rfl rfl) rfl <| rN <| ATodo.cond_d rfl (fun hc => ?_) (fun hc => ?_)
  · refine have h := iteT hc h; tR <| ?_
    cases h
  · refine have h := iteF hc h; tK <| tSR <| rM rfl rfl <| bndE h fun v1 e1 h => ARun.qv (t_index rfl rfl rfl e1 rfl rfl) rfl <| ARun.qv (q_load_rptr rfl rfl rfl) rfl <| rA rfl rfl <| rN <| tS <| tSR <| rA rfl rfl <| rN <| ATodo.block <| ATodo.loopI (fun x : Int × Int => slices_Max_int_int_b1 p0x0 x.1 x.2) (fun x σ' => σ' = ⟨25, [(0, .list 1 (p0x0.map I)), (3, I x.1), (4, I x.2)], []⟩) h ?_ ?_
    · exact ImpX.lq [] rfl rfl rfl
    · intro x z1 σ' J1 hmk h hJ1 hA1
      obtain ⟨n4, n5⟩ := x
      obtain rfl := hmk
      replace h : slices_Max_int_int_b1 p0x0 n4 n5 = some z1 := h
      unfold slices_Max_int_int_b1 at h
      refine tS <| tSR <| rM rfl rfl <| rM rfl rfl <| ARun.qv (t_len rfl) rfl <| ARun.qv (q_lss rfl rfl) rfl <| rN <| ATodo.cond_d rfl (fun hc => ?_) (fun hc => ?_)
      · refine have h := iteT hc h; tK <| tS <| ATodo.block <| tR <| rM rfl rfl <| rM rfl rfl <| rM rfl rfl <| bndE h fun v6 e2 h => ARun.qv (t_index rfl rfl rfl e2 rfl rfl) rfl <| ARun.qv (q_load_rptr rfl rfl rfl) rfl <| ARun.qv (q_max rfl rfl) rfl <| rA rfl rfl <| rN <| ATodo.blk <| tR <| rM rfl rfl <| ARun.qv (q_addw rfl rfl) rfl <| rA rfl rfl <| rN <| ATodo.stop <| ?_
        obtain rfl := Option.some.inj h
        exact hJ1 _ _ rfl <| ImpX.lq [] rfl rfl rfl
      · refine have h := iteF hc h; ATodo.exit rfl <| have h := outL h hA1; tSR <| rM rfl rfl <| rA rfl rfl <| rN <| ATodo.ret <| ?_
        obtain rfl := Option.some.inj h
        exact ImpX.here ⟨_, .cons (.tmp _ _ rfl) .nil, rfl⟩

set_option maxHeartbeats 4000000 in
theorem Q_bucketOf_c [GI : GTab] {p0x0 : Window} {p1x0 : List Int} {r : Bucket} (h : Q_bucketOf p0x0 p1x0 = some r) : Pu Try.prog 40 [.agg [I p0x0.From, I p0x0.To], .list 1 (p1x0.map I)] (.agg [I r.Time.From, I r.Time.To, I r.Count, I r.Sum, I r.Min, I r.Max, I r.First, I r.Last]) := by
  unfold Q_bucketOf at h
  refine ACall.bodyN Try.func40 rfl Try.ntmps40 Try.results40 rfl rfl ?_
  refine tSR <| n_box rfl rfl rfl rfl fun b1 => n_alloc rfl rfl rfl rfl fun b2 => rN <| tS <| bndE h fun v3 e1 h => bndE h fun v4 e2 h => bndE h fun v5 e3 h => bndE h fun v6 e4 h => ATodo.regionT (id := 1) (A := [0, 0, 2, 0, 8, 0, 56, 0, 128, 384, 0, 0, 2048, 6144, 15360, 31744, 65535, 0, 262143]) (H0 := []) (HH := fun β => [((β 17), .cells [I (0 : Int), I (0 : Int), I (0 : Int), I (0 : Int), I (0 : Int), I (0 : Int), I (0 : Int), I (0 : Int)]), (b2, .cells [I (0 : Int), I (0 : Int), I (0 : Int), I (0 : Int), I (0 : Int), I (0 : Int), I (0 : Int), I (0 : Int)]), (b1, .cells [I p0x0.From, I p0x0.To])]) 18 mixed rfl (by kernel_rfl) (by kernel_rfl) [⟨some 17, none, [], fun b => (b, .cells [I (0 : Int), I (0 : Int), I (0 : Int), I (0 : Int), I (0 : Int), I (0 : Int), I (0 : Int), I (0 : Int)]), none⟩] [17] rfl (by kernel_rfl) rfl .nil (fun _ => rfl) <| AT.am 17 rfl rfl <| AM.qv (q_load_ptr_all rfl rfl .p1 rfl) rfl <| AM.qv (q_move rfl) rfl <| AM.qv (t_len rfl) rfl <| AM.qv (q_move rfl) rfl <| AM.callp rfl (slices_Min_int_int_c e1) (CoL.refl _) rfl <| AM.qv (q_move rfl) rfl <| AM.callp rfl (slices_Max_int_int_c e2) (CoL.refl _) rfl <| AM.qv (q_move rfl) rfl <| AM.qv (t_index rfl rfl rfl e3 rfl rfl) rfl <| AM.qv (q_load_rptr rfl rfl rfl) rfl <| AM.qv (q_move rfl) rfl <| AM.qv (q_move rfl) rfl <| AM.qv (t_len rfl) rfl <| AM.qv (q_subw rfl rfl) rfl <| AM.qv (t_index rfl rfl rfl e4 rfl rfl) rfl <| AM.qv (q_load_rptr rfl rfl rfl) rfl <| AM.qv (n_build rfl rfl rfl rfl rfl) rfl <| AM.nil <| AT.runD (V := fun b => .ptr b 0) (Ti := []) (Pi := fun b => [(b, .cells [I (0 : Int), I (0 : Int), I (0 : Int), I (0 : Int), I (0 : Int), I (0 : Int), I (0 : Int), I (0 : Int)])]) (fun _ => rfl) (fun _ => rfl) (fun _ _ => rfl) rfl (fun _ => rfl) rfl rfl rfl ?_ ?_
  · exact n_alloc rfl rfl rfl rfl fun b7 => ARun.nil ⟨b7, _, rfl, rfl⟩
  refine AT.nilN (fun _ => rfl) fun β => ?_
  generalize β 17 = b7
  clear β
  refine n_store_ptr rfl rfl rfl rfl .p0 rfl rfl <| rN <| tS <| tSR <| rM rfl rfl <| ARun.qv (t_len rfl) rfl <| rM rfl rfl <| rN <| ATodo.block <| ATodo.loopI (fun x : Int × Int => Q_bucketOf_b1 p0x0 p1x0 v3 v4 v5 v6 x.1 x.2) (fun x σ' => σ' = ⟨38, [(4, .ptr b2 0), (5, .ptr b7 0), (25, .list 1 (p1x0.map I)), (26, I (p1x0.length : Int)), (27, I x.2)], [(b2, .cells [I (0 : Int), I (0 : Int), I (0 : Int), I (0 : Int), I (0 : Int), I (0 : Int), I (0 : Int), I (0 : Int)]), (b7, .cells [I p0x0.From, I p0x0.To, I (p1x0.length : Int), I x.1, I v3, I v4, I v5, I v6])]⟩) h ?_ ?_
  · exact ImpX.lq [1, 0] rfl rfl rfl
  · intro x z1 σ' J1 hmk h hJ1 hA1
    obtain ⟨n10, n11⟩ := x
    obtain rfl := hmk
    replace h : Q_bucketOf_b1 p0x0 p1x0 v3 v4 v5 v6 n10 n11 = some z1 := h
    unfold Q_bucketOf_b1 at h
    refine tSR <| ARun.qv (q_lss rfl rfl) rfl <| rN <| tS <| ATodo.cond_d rfl (fun hc => ?_) (fun hc => ?_)
    · refine have h := iteT hc h; tK <| tS <| ATodo.block <| tSR <| bndE h fun v12 e5 h => ARun.qv (t_index rfl rfl rfl e5 rfl rfl) rfl <| ARun.qv (q_load_rptr rfl rfl rfl) rfl <| rA rfl rfl <| rN <| tR <| rF rfl rfl rfl <| rL rfl rfl .p1 rfl rfl <| rM rfl rfl <| ARun.qv (q_addw rfl rfl) rfl <| rF rfl rfl rfl <| n_store_ptr rfl rfl rfl rfl .p1 rfl rfl <| rN <| ATodo.blk <| tR <| ARun.qv (q_addw rfl rfl) rfl <| rM rfl rfl <| rN <| ATodo.stop <| ?_
      obtain rfl := Option.some.inj h
      exact hJ1 _ _ rfl <| ImpX.lq [0, 0] rfl rfl rfl
    · refine have h := iteF hc h; ATodo.exit rfl <| have h := outL h hA1; tSR <| ARun.qv (q_load_ptr_all rfl rfl .p1 rfl) rfl <| n_store_ptr rfl rfl rfl rfl .p0 rfl rfl <| rN <| ATodo.ret <| ?_
      obtain rfl := Option.some.inj h
      exact ImpX.here ⟨_, .cons (.all _ _ _ _ _ _ rfl .p0 TUnder.h TInfo.h rfl rfl) .nil, rfl⟩

set_option maxHeartbeats 4000000 in
theorem Q_BucketsOf_c [GI : GTab] {p0x0 : List Sample} {p1x0 : Window} {p2x0 : Int} {r : (List Bucket)} (h : Q_BucketsOf p0x0 p1x0 p2x0 = some r) : ACall Try.prog 13 [.list 4 (p0x0.map Sample.av), .agg [I p1x0.From, I p1x0.To], I p2x0] [] (T1 (fun d_0 => [(d_0, .arr 8 (r.map Bucket.av))]) (fun d_0 => .sl 8 d_0 0 r.length)) := by
  unfold Q_BucketsOf at h
  refine ACall.lessH ?_
  refine ACall.bodyN Try.func13 rfl Try.ntmps13 Try.results13 rfl rfl ?_
  refine tSR <| n_box rfl rfl rfl rfl fun b1 => rA rfl rfl <| rN <| tSR <| t_makeMapO (gk := I) (kp := (keptS 1 I)) (β := (fun _ => ⟨none, 0⟩)) rfl fun b2 b3 => rA rfl rfl <| rN <| tSR <| rA rfl rfl <| rN <| tS <| tSR <| rM rfl rfl <| ARun.qv (t_len rfl) rfl <| rM rfl rfl <| rN <| ATodo.block <| ATodo.loopI (fun x : (List (Int × (List Int))) × (List Int) × Int => Q_BucketsOf_b1 p0x0 p1x0 p2x0 x.1 x.2.1 x.2.2) (fun x σ' => ∃ (be10 : Int → Bk) (b11 : Bk), σ' = ⟨73, [(2, I p2x0), (4, .ptr b1 0), (7, .mref b2), (8, .sl 1 b11 0 x.2.1.length), (16, .list 4 (p0x0.map Sample.av)), (17, I (p0x0.length : Int)), (18, I x.2.2)], [(b1, .cells [I p1x0.From, I p1x0.To]), (b2, .mp (mapE I (keptS 1 I) be10 x.1)), (b3, .pool (poolE (keptS 1 I) be10 x.1)), (b11, .arr 1 (x.2.1.map I))]⟩) h ?_ ?_
  · exact ImpX.arr (s := 8) 1 rfl fun b14 => ImpX.lq [3, 1, 1, 0] ⟨(fun _ => ⟨none, 0⟩), b14, rfl⟩ rfl rfl
  · intro x z1 σ' J1 hmk h hJ1 hA1
    obtain ⟨l9, l12, n13⟩ := x
    obtain ⟨be10, b11, rfl⟩ := hmk
    replace h : Q_BucketsOf_b1 p0x0 p1x0 p2x0 l9 l12 n13 = some z1 := h
    unfold Q_BucketsOf_b1 at h
    refine tSR <| ARun.qv (q_lss rfl rfl) rfl <| rN <| tS <| ATodo.cond_d rfl (fun hc => ?_) (fun hc => ?_)
    · refine have h := iteT hc h; tK <| tS <| ATodo.cut (fun σ' => ∃ (be16 : Int → Bk) (b17 : Bk) (l15 : List (Int × (List Int))) (l18 : List Int), Q_BucketsOf_j1 n13 l15 l18 = some z1 ∧ σ' = ⟨73, [(2, I p2x0), (4, .ptr b1 0), (7, .mref b2), (8, .sl 1 b17 0 l18.length), (16, .list 4 (p0x0.map Sample.av)), (17, I (p0x0.length : Int)), (18, I n13)], [(b1, .cells [I p1x0.From, I p1x0.To]), (b2, .mp (mapE I (keptS 1 I) be16 l15)), (b3, .pool (poolE (keptS 1 I) be16 l15)), (b17, .arr 1 (l18.map I))]⟩) ?_ ?_
      · refine ATodo.block <| tSR <| bndE h fun v19 e1 h => ARun.qv (t_index rfl rfl rfl e1 rfl rfl) rfl <| ARun.qv (q_load_rptr_agg rfl rfl rfl) rfl <| n_alloc rfl rfl rfl rfl fun b20 => n_store_ptr rfl rfl rfl rfl .p0 rfl rfl <| rN <| tS <| tSR <| rF rfl rfl rfl <| rL rfl rfl .p0 rfl rfl <| ARun.qv (q_load_ptr_all rfl rfl .p1 rfl) rfl <| r_callp rfl (Q_within_c rfl) (CoL.refl _) rfl <| ARun.qv (q_not rfl) rfl <| rN <| ATodo.cond rfl (fun hc => ?_) (fun hc => ?_)
        · exact have h := iteT hc h; ATodo.exit rfl <| ATodo.stop <| ImpX.lq [1, 1, 1, 1] ⟨be10, b11, l9, l12, h, rfl⟩ rfl rfl
        · refine have h := iteFb hc h; tK <| tSR <| rF rfl rfl rfl <| rL rfl rfl .p0 rfl rfl <| rM rfl rfl <| bndE h fun n21 e2 h => ARun.qv (t_quoS rfl rfl e2) rfl <| rA rfl rfl <| rN <| tS <| tSR <| rM rfl rfl <| rM rfl rfl <| bndE h fun v22 e3 h => t_lookupS (gk := I) (sz := 1) (g := I) (β := be10) (M := l9) (key := n21) rfl rfl .p2 .p3 rfl e3 rfl fun b23 hbe3 => ARun.qv (t_len_sl rfl) rfl <| ARun.qv (q_eql rfl rfl) rfl <| ARun.ghost <| ImpX.backS (gk := I) (sz := 1) (g := I) (β := be10) (M := l9) (key := n21) (MKey.inj Try.prog 3) e3 hbe3 .p3 .p0 .p3 <| ImpX.here <| rN <| ATodo.cut (fun σ' => ∃ (b24 : Bk) (l25 : List Int), Q_BucketsOf_j2 l9 n13 v19 n21 l25 = some z1 ∧ σ' = ⟨73, [(2, I p2x0), (4, .ptr b1 0), (7, .mref b2), (8, .sl 1 b24 0 l25.length), (10, .ptr b20 0), (11, I n21), (16, .list 4 (p0x0.map Sample.av)), (17, I (p0x0.length : Int)), (18, I n13)], [(b1, .cells [I p1x0.From, I p1x0.To]), (b2, .mp (mapE I (keptS 1 I) be10 l9)), (b3, .pool (poolE (keptS 1 I) be10 l9)), (b24, .arr 1 (l25.map I)), (b20, .cells [.str v19.Device, .str v19.Metric, I v19.At, I v19.Value])]⟩) ?_ ?_
          · refine ATodo.cond_d rfl (fun hc => ?_) (fun hc => ?_)
            · exact have h := iteT hc h; tR <| rM rfl rfl <| rM rfl rfl <| n_buildSliceL (xs := ([n21] : List Int).map I) rfl rfl rfl rfl rfl rfl <| bndE h fun l26 e4 h => t_append (g := I) rfl rfl rfl rfl rfl rfl rfl rfl (.list _) e4 (fun _ => .p4) rfl fun b27 => rA rfl rfl <| rN <| ATodo.stop <| ImpX.lq [1, 1, 1, 1, 0] ⟨b27, l26, h, rfl⟩ rfl rfl
            · exact have h := iteF hc h; tK <| ATodo.stop <| ImpX.lq [1, 1, 1, 1, 0] ⟨b11, l12, h, rfl⟩ rfl rfl
          · rintro σ' ⟨b24, l25, h, rfl⟩
            unfold Q_BucketsOf_j2 at h
            exact tR <| rM rfl rfl <| rM rfl rfl <| rM rfl rfl <| rM rfl rfl <| bndE h fun v28 e5 h => t_lookupS (gk := I) (sz := 1) (g := I) (β := be10) (M := l9) (key := n21) rfl rfl .p1 .p2 rfl e5 rfl fun b29 hbe5 => rF rfl rfl rfl <| rL rfl rfl .p5 rfl rfl <| n_buildSliceL (xs := ([v19.Value] : List Int).map I) rfl rfl rfl rfl rfl rfl <| bndE h fun l30 e6 h => t_append (g := I) rfl rfl rfl rfl rfl rfl rfl rfl (.list _) e6 (fun _ => .p0) rfl fun b31 => t_mapUpdateO (gk := I) (kp := (keptS 1 I)) (β := be10) (M := l9) (key := n21) (v := l30) (b := b31) rfl rfl rfl rfl .p2 <| ARun.ghost <| ImpX.poolPut (kp := (keptS 1 I)) (β := be10) (M := l9) (key := n21) (v := l30) rfl .p0 .p2 <| ImpX.here <| rN <| ATodo.blk <| ATodo.stop <| ImpX.lq [0, 0, 0, 0] ⟨(updK be10 n21 b31), b24, mset l9 n21 l30, l25, h, rfl⟩ rfl rfl
      · rintro σ' ⟨be16, b17, l15, l18, h, rfl⟩
        unfold Q_BucketsOf_j1 at h
        refine tR <| ARun.qv (q_addw rfl rfl) rfl <| rM rfl rfl <| rN <| ATodo.stop <| ?_
        obtain rfl := Option.some.inj h
        exact hJ1 _ _ rfl <| ImpX.lq [0, 0, 0, 0] ⟨be16, b17, rfl⟩ rfl rfl
    · refine have h := iteF hc h; ATodo.exit rfl <| have h := outL h hA1; tSR <| rA rfl rfl <| rN <| tS <| tSR <| rM rfl rfl <| ARun.qv (t_len_sl rfl) rfl <| rM rfl rfl <| rN <| ATodo.block <| ATodo.loopI (fun x : (List Bucket) × Int => Q_BucketsOf_b2 p2x0 l9 l12 x.1 x.2) (fun x σ' => ∃ (b35 : Bk), σ' = ⟨73, [(2, I p2x0), (7, .mref b2), (12, .sl 8 b35 0 x.1.length), (50, .sl 1 b11 0 l12.length), (51, I (l12.length : Int)), (52, I x.2)], [(b2, .mp (mapE I (keptS 1 I) be10 l9)), (b3, .pool (poolE (keptS 1 I) be10 l9)), (b35, .arr 8 (x.1.map Bucket.av)), (b11, .arr 1 (l12.map I))]⟩) h ?_ ?_
      · exact ImpX.arr (s := 12) 8 rfl fun b38 => ImpX.lq [2, 2, 0, 1] ⟨b38, rfl⟩ rfl rfl
      · intro x z2 σ' J2 hmk h hJ2 hA2
        obtain ⟨l36, n37⟩ := x
        obtain ⟨b35, rfl⟩ := hmk
        replace h : Q_BucketsOf_b2 p2x0 l9 l12 l36 n37 = some z2 := h
        unfold Q_BucketsOf_b2 at h
        refine tSR <| ARun.qv (q_lss rfl rfl) rfl <| rN <| tS <| ATodo.cond_d rfl (fun hc => ?_) (fun hc => ?_)
        · refine have h := iteT hc h; tK <| tS <| ATodo.block <| tSR <| bndE h fun v39 e7 h => ARun.qv (t_index_sl rfl rfl rfl e7) rfl <| ARun.qv (t_load_aptr (g := I) rfl rfl (.inl .p3) e7 rfl) rfl <| rA rfl rfl <| rN <| tR <| rM rfl rfl <| rM rfl rfl <| rM rfl rfl <| ARun.qv (q_mulw rfl rfl) rfl <| rM rfl rfl <| ARun.qv (q_addw rfl rfl) rfl <| rM rfl rfl <| ARun.qv (q_mulw rfl rfl) rfl <| ARun.qv (n_build rfl rfl rfl rfl rfl) rfl <| rM rfl rfl <| rM rfl rfl <| bndE h fun v40 e8 h => t_lookupS (gk := I) (sz := 1) (g := I) (β := be10) (M := l9) (key := v39) rfl rfl .p0 .p1 rfl e8 rfl fun b41 hbe8 => bndE h fun v42 e9 h => r_callpB rfl (Q_bucketOf_c e9) (.cons (.co (.refl _)) (.cons (CoB.arrT .p0) .nil)) rfl rfl <| n_buildSliceL (xs := ([v42] : List Bucket).map Bucket.av) rfl rfl rfl rfl rfl rfl <| bndE h fun l43 e10 h => t_append (g := Bucket.av) rfl rfl rfl rfl rfl rfl rfl rfl (.list _) e10 (fun _ => .p3) rfl fun b44 => rA rfl rfl <| ARun.ghost <| ImpX.backS (gk := I) (sz := 1) (g := I) (β := be10) (M := l9) (key := v39) (MKey.inj Try.prog 3) e8 hbe8 .p1 .p0 .p1 <| ImpX.here <| rN <| ATodo.blk <| tR <| ARun.qv (q_addw rfl rfl) rfl <| rM rfl rfl <| rN <| ATodo.stop <| ?_
          obtain rfl := Option.some.inj h
          exact hJ2 _ _ rfl <| ImpX.lq [0, 0, 0, 0] ⟨b44, rfl⟩ rfl rfl
        · refine have h := iteF hc h; ATodo.exit rfl <| have h := outL h hA2; tSR <| rM rfl rfl <| rA rfl rfl <| rN <| ATodo.ret <| ?_
          obtain rfl := Option.some.inj h
          exact ImpX.here ⟨_, .cons (.tmp _ _ rfl) .nil, _, .cons .p2 .nil, ⟨b35, rfl, rfl⟩⟩

set_option maxHeartbeats 4000000 in
theorem slices_Equal_Bucket_Bucket_c [GI : GTab] {p0x0 : List Bucket} {p1x0 : List Bucket} {r : Bool} (h : slices_Equal_Bucket_Bucket p0x0 p1x0 = some r) : Pu Try.prog 14 [.list 8 (p0x0.map Bucket.av), .list 8 (p1x0.map Bucket.av)] (.bool r) := by
  unfold slices_Equal_Bucket_Bucket at h
  refine ACall.bodyN Try.func14 rfl Try.ntmps14 Try.results14 rfl rfl ?_
  refine tSR <| rA rfl rfl <| rN <| tS <| tSR <| rM rfl rfl <| ARun.qv (t_len rfl) rfl <| rM rfl rfl <| ARun.qv (t_len rfl) rfl <| ARun.qv (q_neq rfl rfl) rfl <| rN <| ATodo.cond_d rfl (fun hc => ?_) (fun hc => ?_)
  · refine have h := iteT hc h; tSR <| rA rfl rfl <| rN <| ATodo.ret <| ?_
    obtain rfl := Option.some.inj h
    exact ImpX.here ⟨_, .cons (.tmp _ _ rfl) .nil, rfl⟩
  · refine have h := iteF hc h; tK <| tS <| tSR <| rM rfl rfl <| ARun.qv (t_len rfl) rfl <| rM rfl rfl <| rN <| ATodo.block <| ATodo.loopI (fun x : Int => slices_Equal_Bucket_Bucket_b1 p0x0 p1x0 x) (fun x σ' => σ' = ⟨26, [(0, .list 8 (p0x0.map Bucket.av)), (1, .list 8 (p1x0.map Bucket.av)), (12, I (p0x0.length : Int)), (13, I x)], []⟩) h ?_ ?_
    · exact ImpX.lq [] rfl rfl rfl
    · intro n2 z1 σ' J1 hmk h hJ1 hA1
      obtain rfl := hmk
      replace h : slices_Equal_Bucket_Bucket_b1 p0x0 p1x0 n2 = some z1 := h
      unfold slices_Equal_Bucket_Bucket_b1 at h
      refine tSR <| ARun.qv (q_lss rfl rfl) rfl <| rN <| tS <| ATodo.cond_d rfl (fun hc => ?_) (fun hc => ?_)
      · refine have h := iteT hc h; tK <| tS <| ATodo.block <| tSR <| rM rfl rfl <| rA rfl rfl <| rN <| tS <| ATodo.regionM (id := 6) (A := [0, 0, 3, 7, 0, 0, 48, 112, 255]) 9 mixed rfl (by kernel_rfl) (by kernel_rfl) <| AM.qv (q_move rfl) rfl <| AM.qv (q_move rfl) rfl <| bndE h fun v3 e1 h => AM.qv (t_index rfl rfl rfl e1 rfl rfl) rfl <| AM.qv (q_load_rptr_agg rfl rfl rfl) rfl <| AM.qv (q_move rfl) rfl <| AM.qv (q_move rfl) rfl <| bndE h fun v4 e2 h => AM.qv (t_index rfl rfl rfl e2 rfl rfl) rfl <| AM.qv (q_load_rptr_agg rfl rfl rfl) rfl <| AM.qv (t_tne (g := Bucket.av) (X := v3) (Y := v4) rfl rfl rfl rfl rfl) rfl <| AM.nil <| rN <| ATodo.cond_d rfl (fun hc => ?_) (fun hc => ?_)
        · refine have h := iteT hc h; tSR <| rA rfl rfl <| rN <| ATodo.ret <| have h := outL h hA1; ?_
          obtain rfl := Option.some.inj h
          exact ImpX.here ⟨_, .cons (.tmp _ _ rfl) .nil, rfl⟩
        · refine have h := iteF hc h; tK <| ATodo.blk <| tR <| ARun.qv (q_addw rfl rfl) rfl <| rM rfl rfl <| rN <| ATodo.stop <| ?_
          obtain rfl := Option.some.inj h
          exact hJ1 _ _ rfl <| ImpX.lq [] rfl rfl rfl
      · refine have h := iteF hc h; ATodo.exit rfl <| have h := outL h hA1; tSR <| rA rfl rfl <| rN <| ATodo.ret <| ?_
        obtain rfl := Option.some.inj h
        exact ImpX.here ⟨_, .cons (.tmp _ _ rfl) .nil, rfl⟩

set_option maxHeartbeats 4000000 in
theorem Stream_RightBuckets_c [GI : GTab] {b_0 : Bk} {p0x0 : Fleetmake_Stream} {p1x0 : Int} {r : (List Bucket) × Fleetmake_Stream} (h : Stream_RightBuckets p0x0 p1x0 = some r) : ACall Try.prog 15 [.ptr b_0 0, I p1x0] [(b_0, .cells [.list 1 (p0x0.L.map I), I p0x0.at_])] (T1 (fun d_0 => [(b_0, .cells [.list 1 (r.2.L.map I), I r.2.at_]), (d_0, .arr 8 (r.1.map Bucket.av))]) (fun d_0 => .sl 8 d_0 0 r.1.length)) := by
  unfold Stream_RightBuckets at h
  refine ACall.lessH ?_
  refine ACall.bodyN Try.func15 rfl Try.ntmps15 Try.results15 rfl rfl ?_
  refine tSR <| rA rfl rfl <| rN <| tSR <| rM rfl rfl <| bndE h fun v1 e1 h => t_call1 rfl (Stream_RightSeries_c e1) (CoL.refl _) (.cons .p0 .nil) (fun _ => rfl) rfl fun b2 => ARun.qv (n_build rfl rfl rfl rfl rfl) rfl <| rM rfl rfl <| bndE h fun v3 e2 h => t_callL1 rfl (Q_BucketsOf_c e2) .nil (.cons (CoB.arrT .p1) (.cons (.co (.refl _)) (.cons (.co (.refl _)) .nil))) (fun _ => rfl) (fun _ => rfl) (fun _ => (.cons (NoS.arrT (fun _ => rfl)) .nil)) rfl fun b4 => rA rfl rfl <| rN <| ATodo.ret <| ?_
  obtain rfl := Option.some.inj h
  exact ImpX.here ⟨_, .cons (.tmp _ _ rfl) .nil, _, .cons .p1 (.cons .p0 .nil), ⟨b4, rfl, rfl⟩⟩

set_option maxHeartbeats 4000000 in
theorem Stream_SpoiltBuckets_c [GI : GTab] {b_0 : Bk} {b_1 : Bk} {p0x0 : Fleetmake_Stream} {p1x0 : List Bucket} {r : (List Bucket) × Fleetmake_Stream} (h : Stream_SpoiltBuckets p0x0 p1x0 = some r) : ACall Try.prog 17 [.ptr b_0 0, .sl 8 b_1 0 p1x0.length] [(b_0, .cells [.list 1 (p0x0.L.map I), I p0x0.at_]), (b_1, .arr 8 (p1x0.map Bucket.av))] (T1 (fun d_0 => [(b_0, .cells [.list 1 (r.2.L.map I), I r.2.at_]), (d_0, .arr 8 (r.1.map Bucket.av))]) (fun d_0 => .sl 8 d_0 0 r.1.length)) := by
  unfold Stream_SpoiltBuckets at h
  refine ACall.lessH ?_
  refine ACall.bodyN Try.func17 rfl Try.ntmps17 Try.results17 rfl rfl ?_
  refine tSR <| rA rfl rfl <| rN <| tS <| tSR <| rM rfl rfl <| ARun.qv (t_len_sl rfl) rfl <| ARun.qv (q_eql rfl rfl) rfl <| rN <| ATodo.cond_d rfl (fun hc => ?_) (fun hc => ?_)
  · refine have h := iteT hc h; tSR <| rM rfl rfl <| rA rfl rfl <| rN <| ATodo.ret <| ?_
    obtain rfl := Option.some.inj h
    exact ImpX.here ⟨_, .cons (.tmp _ _ rfl) .nil, _, .cons .p0 (.cons .p0 .nil), ⟨b_1, rfl, rfl⟩⟩
  · refine have h := iteF hc h; tK <| tSR <| rM rfl rfl <| rM rfl rfl <| rM rfl rfl <| ARun.qv (t_len_sl rfl) rfl <| bndE h fun v1 e1 h => t_call0 rfl (Stream_Next_c e1) (CoL.refl _) (.cons .p0 .nil) rfl rfl <| bndE h fun v2 e2 h => ARun.qv (t_index_sl rfl rfl rfl e2) rfl <| rA rfl rfl <| rN <| tS <| tSR <| rM rfl rfl <| bndE h fun v3 e3 h => t_call0 rfl (Stream_Next_c e3) (CoL.refl _) (.cons .p0 .nil) rfl rfl <| rN <| ATodo.block <| tSR <| ARun.qv (q_eql rfl rfl) rfl <| rA rfl rfl <| rN <| ATodo.cut (fun σ' => ∃ (l4 : List Int) (n5 : Int) (l6 : List Bucket), Stream_SpoiltBuckets_j1 l4 n5 l6 = some r ∧ σ' = ⟨71, [(1, .sl 8 b_1 0 l6.length)], [(b_0, .cells [.list 1 (l4.map I), I n5]), (b_1, .arr 8 (l6.map Bucket.av))]⟩) ?_ ?_
    · refine ATodo.cond_d rfl (fun hc => ?_) (fun hc => ?_)
      · exact have h := iteT hc h; tR <| rM rfl rfl <| rM rfl rfl <| bndE h fun v7 e4 h => t_call0 rfl (Stream_Odd_c e4) (CoL.refl _) (.cons .p0 .nil) rfl rfl <| ARun.qv (q_nilCheck_aptr rfl) rfl <| ARun.qv (t_field_aptr rfl rfl) rfl <| ARun.qv (t_field_aptr rfl rfl) rfl <| t_store_aptr1 (g := Bucket.av) (el' := (⟨(⟨v7.1, v2.Time.To⟩ : Window), v2.Count, v2.Sum, v2.Min, v2.Max, v2.First, v2.Last⟩ : Bucket)) rfl rfl rfl rfl e2 rfl .p1 rfl <| ARun.ghost <| ImpX.eqs (s := 1) (av' := .sl 8 b_1 0 (p1x0.set v1.1.toNat (⟨(⟨v7.1, v2.Time.To⟩ : Window), v2.Count, v2.Sum, v2.Min, v2.Max, v2.First, v2.Last⟩ : Bucket)).length) rfl (by rw [List.length_set]) <| ImpX.here <| ARun.ghost <| ImpX.eqs (s := 6) (av' := .sl 8 b_1 0 (p1x0.set v1.1.toNat (⟨(⟨v7.1, v2.Time.To⟩ : Window), v2.Count, v2.Sum, v2.Min, v2.Max, v2.First, v2.Last⟩ : Bucket)).length) rfl (by rw [List.length_set]) <| ImpX.here <| ARun.ghost <| ImpX.eqs (s := 10) (av' := .sl 8 b_1 0 (p1x0.set v1.1.toNat (⟨(⟨v7.1, v2.Time.To⟩ : Window), v2.Count, v2.Sum, v2.Min, v2.Max, v2.First, v2.Last⟩ : Bucket)).length) rfl (by rw [List.length_set]) <| ImpX.here <| ARun.ghost <| ImpX.eqs (s := 12) (av' := .sl 8 b_1 0 (p1x0.set v1.1.toNat (⟨(⟨v7.1, v2.Time.To⟩ : Window), v2.Count, v2.Sum, v2.Min, v2.Max, v2.First, v2.Last⟩ : Bucket)).length) rfl (by rw [List.length_set]) <| ImpX.here <| rN <| ATodo.stop <| ImpX.lq [0, 0] ⟨v7.2.L, v7.2.at_, p1x0.set v1.1.toNat (⟨(⟨v7.1, v2.Time.To⟩ : Window), v2.Count, v2.Sum, v2.Min, v2.Max, v2.First, v2.Last⟩ : Bucket), h, rfl⟩ rfl rfl
      · refine have h := iteF hc h; tSR <| ARun.qv (q_eql rfl rfl) rfl <| rA rfl rfl <| rN <| ATodo.cut (fun σ' => ∃ (l8 : List Int) (n9 : Int) (l10 : List Bucket), Stream_SpoiltBuckets_j2 l8 n9 l10 = some r ∧ σ' = ⟨71, [(1, .sl 8 b_1 0 l10.length)], [(b_0, .cells [.list 1 (l8.map I), I n9]), (b_1, .arr 8 (l10.map Bucket.av))]⟩) ?_ ?_
        · refine ATodo.cond_d rfl (fun hc => ?_) (fun hc => ?_)
          · exact have h := iteT hc h; tR <| rM rfl rfl <| rM rfl rfl <| bndE h fun v11 e5 h => t_call0 rfl (Stream_Odd_c e5) (CoL.refl _) (.cons .p0 .nil) rfl rfl <| ARun.qv (q_nilCheck_aptr rfl) rfl <| ARun.qv (t_field_aptr rfl rfl) rfl <| ARun.qv (t_field_aptr rfl rfl) rfl <| t_store_aptr1 (g := Bucket.av) (el' := (⟨(⟨v2.Time.From, v11.1⟩ : Window), v2.Count, v2.Sum, v2.Min, v2.Max, v2.First, v2.Last⟩ : Bucket)) rfl rfl rfl rfl e2 rfl .p1 rfl <| ARun.ghost <| ImpX.eqs (s := 1) (av' := .sl 8 b_1 0 (p1x0.set v1.1.toNat (⟨(⟨v2.Time.From, v11.1⟩ : Window), v2.Count, v2.Sum, v2.Min, v2.Max, v2.First, v2.Last⟩ : Bucket)).length) rfl (by rw [List.length_set]) <| ImpX.here <| ARun.ghost <| ImpX.eqs (s := 6) (av' := .sl 8 b_1 0 (p1x0.set v1.1.toNat (⟨(⟨v2.Time.From, v11.1⟩ : Window), v2.Count, v2.Sum, v2.Min, v2.Max, v2.First, v2.Last⟩ : Bucket)).length) rfl (by rw [List.length_set]) <| ImpX.here <| ARun.ghost <| ImpX.eqs (s := 10) (av' := .sl 8 b_1 0 (p1x0.set v1.1.toNat (⟨(⟨v2.Time.From, v11.1⟩ : Window), v2.Count, v2.Sum, v2.Min, v2.Max, v2.First, v2.Last⟩ : Bucket)).length) rfl (by rw [List.length_set]) <| ImpX.here <| ARun.ghost <| ImpX.eqs (s := 12) (av' := .sl 8 b_1 0 (p1x0.set v1.1.toNat (⟨(⟨v2.Time.From, v11.1⟩ : Window), v2.Count, v2.Sum, v2.Min, v2.Max, v2.First, v2.Last⟩ : Bucket)).length) rfl (by rw [List.length_set]) <| ImpX.here <| rN <| ATodo.stop <| ImpX.lq [0, 0] ⟨v11.2.L, v11.2.at_, p1x0.set v1.1.toNat (⟨(⟨v2.Time.From, v11.1⟩ : Window), v2.Count, v2.Sum, v2.Min, v2.Max, v2.First, v2.Last⟩ : Bucket), h, rfl⟩ rfl rfl
          · refine have h := iteF hc h; tSR <| ARun.qv (q_eql rfl rfl) rfl <| rA rfl rfl <| rN <| ATodo.cut (fun σ' => ∃ (l12 : List Int) (n13 : Int) (l14 : List Bucket), Stream_SpoiltBuckets_j3 l12 n13 l14 = some r ∧ σ' = ⟨71, [(1, .sl 8 b_1 0 l14.length)], [(b_0, .cells [.list 1 (l12.map I), I n13]), (b_1, .arr 8 (l14.map Bucket.av))]⟩) ?_ ?_
            · refine ATodo.cond_d rfl (fun hc => ?_) (fun hc => ?_)
              · exact have h := iteT hc h; tR <| rM rfl rfl <| rM rfl rfl <| bndE h fun v15 e6 h => t_call0 rfl (Stream_Odd_c e6) (CoL.refl _) (.cons .p0 .nil) rfl rfl <| ARun.qv (q_nilCheck_aptr rfl) rfl <| ARun.qv (t_field_aptr rfl rfl) rfl <| t_store_aptr1 (g := Bucket.av) (el' := (⟨v2.Time, v15.1, v2.Sum, v2.Min, v2.Max, v2.First, v2.Last⟩ : Bucket)) rfl rfl rfl rfl e2 rfl .p1 rfl <| ARun.ghost <| ImpX.eqs (s := 1) (av' := .sl 8 b_1 0 (p1x0.set v1.1.toNat (⟨v2.Time, v15.1, v2.Sum, v2.Min, v2.Max, v2.First, v2.Last⟩ : Bucket)).length) rfl (by rw [List.length_set]) <| ImpX.here <| ARun.ghost <| ImpX.eqs (s := 6) (av' := .sl 8 b_1 0 (p1x0.set v1.1.toNat (⟨v2.Time, v15.1, v2.Sum, v2.Min, v2.Max, v2.First, v2.Last⟩ : Bucket)).length) rfl (by rw [List.length_set]) <| ImpX.here <| ARun.ghost <| ImpX.eqs (s := 10) (av' := .sl 8 b_1 0 (p1x0.set v1.1.toNat (⟨v2.Time, v15.1, v2.Sum, v2.Min, v2.Max, v2.First, v2.Last⟩ : Bucket)).length) rfl (by rw [List.length_set]) <| ImpX.here <| ARun.ghost <| ImpX.eqs (s := 12) (av' := .sl 8 b_1 0 (p1x0.set v1.1.toNat (⟨v2.Time, v15.1, v2.Sum, v2.Min, v2.Max, v2.First, v2.Last⟩ : Bucket)).length) rfl (by rw [List.length_set]) <| ImpX.here <| rN <| ATodo.stop <| ImpX.lq [0, 0] ⟨v15.2.L, v15.2.at_, p1x0.set v1.1.toNat (⟨v2.Time, v15.1, v2.Sum, v2.Min, v2.Max, v2.First, v2.Last⟩ : Bucket), h, rfl⟩ rfl rfl
              · refine have h := iteF hc h; tSR <| ARun.qv (q_eql rfl rfl) rfl <| rA rfl rfl <| rN <| ATodo.cut (fun σ' => ∃ (l16 : List Int) (n17 : Int) (l18 : List Bucket), Stream_SpoiltBuckets_j4 l16 n17 l18 = some r ∧ σ' = ⟨71, [(1, .sl 8 b_1 0 l18.length)], [(b_0, .cells [.list 1 (l16.map I), I n17]), (b_1, .arr 8 (l18.map Bucket.av))]⟩) ?_ ?_
                · refine ATodo.cond_d rfl (fun hc => ?_) (fun hc => ?_)
                  · exact have h := iteT hc h; tR <| rM rfl rfl <| rM rfl rfl <| bndE h fun v19 e7 h => t_call0 rfl (Stream_Odd_c e7) (CoL.refl _) (.cons .p0 .nil) rfl rfl <| ARun.qv (q_nilCheck_aptr rfl) rfl <| ARun.qv (t_field_aptr rfl rfl) rfl <| t_store_aptr1 (g := Bucket.av) (el' := (⟨v2.Time, v2.Count, v19.1, v2.Min, v2.Max, v2.First, v2.Last⟩ : Bucket)) rfl rfl rfl rfl e2 rfl .p1 rfl <| ARun.ghost <| ImpX.eqs (s := 1) (av' := .sl 8 b_1 0 (p1x0.set v1.1.toNat (⟨v2.Time, v2.Count, v19.1, v2.Min, v2.Max, v2.First, v2.Last⟩ : Bucket)).length) rfl (by rw [List.length_set]) <| ImpX.here <| ARun.ghost <| ImpX.eqs (s := 6) (av' := .sl 8 b_1 0 (p1x0.set v1.1.toNat (⟨v2.Time, v2.Count, v19.1, v2.Min, v2.Max, v2.First, v2.Last⟩ : Bucket)).length) rfl (by rw [List.length_set]) <| ImpX.here <| ARun.ghost <| ImpX.eqs (s := 10) (av' := .sl 8 b_1 0 (p1x0.set v1.1.toNat (⟨v2.Time, v2.Count, v19.1, v2.Min, v2.Max, v2.First, v2.Last⟩ : Bucket)).length) rfl (by rw [List.length_set]) <| ImpX.here <| ARun.ghost <| ImpX.eqs (s := 12) (av' := .sl 8 b_1 0 (p1x0.set v1.1.toNat (⟨v2.Time, v2.Count, v19.1, v2.Min, v2.Max, v2.First, v2.Last⟩ : Bucket)).length) rfl (by rw [List.length_set]) <| ImpX.here <| rN <| ATodo.stop <| ImpX.lq [0, 0] ⟨v19.2.L, v19.2.at_, p1x0.set v1.1.toNat (⟨v2.Time, v2.Count, v19.1, v2.Min, v2.Max, v2.First, v2.Last⟩ : Bucket), h, rfl⟩ rfl rfl
                  · refine have h := iteF hc h; tSR <| ARun.qv (q_eql rfl rfl) rfl <| rA rfl rfl <| rN <| ATodo.cut (fun σ' => ∃ (l20 : List Int) (n21 : Int) (l22 : List Bucket), Stream_SpoiltBuckets_j5 l20 n21 l22 = some r ∧ σ' = ⟨71, [(1, .sl 8 b_1 0 l22.length)], [(b_0, .cells [.list 1 (l20.map I), I n21]), (b_1, .arr 8 (l22.map Bucket.av))]⟩) ?_ ?_
                    · refine ATodo.cond_d rfl (fun hc => ?_) (fun hc => ?_)
                      · exact have h := iteT hc h; tR <| rM rfl rfl <| rM rfl rfl <| rM rfl rfl <| bndE h fun v23 e8 h => t_call0 rfl (Stream_Odd_c e8) (CoL.refl _) (.cons .p0 .nil) rfl rfl <| rM rfl rfl <| bndE h fun v24 e9 h => t_call0 rfl (Stream_Odd_c e9) (CoL.refl _) (.cons .p0 .nil) rfl rfl <| ARun.qv (q_nilCheck_aptr rfl) rfl <| ARun.qv (t_field_aptr rfl rfl) rfl <| t_store_aptr1 (g := Bucket.av) (el' := (⟨v2.Time, v2.Count, v2.Sum, v23.1, v2.Max, v2.First, v2.Last⟩ : Bucket)) rfl rfl rfl rfl e2 rfl .p1 rfl <| ARun.ghost <| ImpX.eqs (s := 1) (av' := .sl 8 b_1 0 (p1x0.set v1.1.toNat (⟨v2.Time, v2.Count, v2.Sum, v23.1, v2.Max, v2.First, v2.Last⟩ : Bucket)).length) rfl (by rw [List.length_set]) <| ImpX.here <| ARun.ghost <| ImpX.eqs (s := 6) (av' := .sl 8 b_1 0 (p1x0.set v1.1.toNat (⟨v2.Time, v2.Count, v2.Sum, v23.1, v2.Max, v2.First, v2.Last⟩ : Bucket)).length) rfl (by rw [List.length_set]) <| ImpX.here <| ARun.ghost <| ImpX.eqs (s := 10) (av' := .sl 8 b_1 0 (p1x0.set v1.1.toNat (⟨v2.Time, v2.Count, v2.Sum, v23.1, v2.Max, v2.First, v2.Last⟩ : Bucket)).length) rfl (by rw [List.length_set]) <| ImpX.here <| ARun.ghost <| ImpX.eqs (s := 12) (av' := .sl 8 b_1 0 (p1x0.set v1.1.toNat (⟨v2.Time, v2.Count, v2.Sum, v23.1, v2.Max, v2.First, v2.Last⟩ : Bucket)).length) rfl (by rw [List.length_set]) <| ImpX.here <| ARun.qv (q_nilCheck_aptr rfl) rfl <| ARun.qv (t_field_aptr rfl rfl) rfl <| t_store_aptr1 (g := Bucket.av) (el' := (⟨v2.Time, v2.Count, v2.Sum, v23.1, v24.1, v2.First, v2.Last⟩ : Bucket)) rfl rfl rfl rfl (idx_set_self (v := (⟨v2.Time, v2.Count, v2.Sum, v23.1, v2.Max, v2.First, v2.Last⟩ : Bucket)) e2) rfl .p1 rfl <| ARun.ghost <| ImpX.eqs (s := 1) (av' := .sl 8 b_1 0 ((p1x0.set v1.1.toNat (⟨v2.Time, v2.Count, v2.Sum, v23.1, v2.Max, v2.First, v2.Last⟩ : Bucket)).set v1.1.toNat (⟨v2.Time, v2.Count, v2.Sum, v23.1, v24.1, v2.First, v2.Last⟩ : Bucket)).length) rfl (by rw [List.length_set]) <| ImpX.here <| ARun.ghost <| ImpX.eqs (s := 6) (av' := .sl 8 b_1 0 ((p1x0.set v1.1.toNat (⟨v2.Time, v2.Count, v2.Sum, v23.1, v2.Max, v2.First, v2.Last⟩ : Bucket)).set v1.1.toNat (⟨v2.Time, v2.Count, v2.Sum, v23.1, v24.1, v2.First, v2.Last⟩ : Bucket)).length) rfl (by rw [List.length_set]) <| ImpX.here <| ARun.ghost <| ImpX.eqs (s := 10) (av' := .sl 8 b_1 0 ((p1x0.set v1.1.toNat (⟨v2.Time, v2.Count, v2.Sum, v23.1, v2.Max, v2.First, v2.Last⟩ : Bucket)).set v1.1.toNat (⟨v2.Time, v2.Count, v2.Sum, v23.1, v24.1, v2.First, v2.Last⟩ : Bucket)).length) rfl (by rw [List.length_set]) <| ImpX.here <| ARun.ghost <| ImpX.eqs (s := 12) (av' := .sl 8 b_1 0 ((p1x0.set v1.1.toNat (⟨v2.Time, v2.Count, v2.Sum, v23.1, v2.Max, v2.First, v2.Last⟩ : Bucket)).set v1.1.toNat (⟨v2.Time, v2.Count, v2.Sum, v23.1, v24.1, v2.First, v2.Last⟩ : Bucket)).length) rfl (by rw [List.length_set]) <| ImpX.here <| rN <| ATodo.stop <| ImpX.lq [0, 0] ⟨v24.2.L, v24.2.at_, (p1x0.set v1.1.toNat (⟨v2.Time, v2.Count, v2.Sum, v23.1, v2.Max, v2.First, v2.Last⟩ : Bucket)).set v1.1.toNat (⟨v2.Time, v2.Count, v2.Sum, v23.1, v24.1, v2.First, v2.Last⟩ : Bucket), h, rfl⟩ rfl rfl
                      · exact have h := iteF hc h; tR <| rM rfl rfl <| rM rfl rfl <| rM rfl rfl <| bndE h fun v25 e10 h => t_call0 rfl (Stream_Odd_c e10) (CoL.refl _) (.cons .p0 .nil) rfl rfl <| rM rfl rfl <| bndE h fun v26 e11 h => t_call0 rfl (Stream_Odd_c e11) (CoL.refl _) (.cons .p0 .nil) rfl rfl <| ARun.qv (q_nilCheck_aptr rfl) rfl <| ARun.qv (t_field_aptr rfl rfl) rfl <| t_store_aptr1 (g := Bucket.av) (el' := (⟨v2.Time, v2.Count, v2.Sum, v2.Min, v2.Max, v25.1, v2.Last⟩ : Bucket)) rfl rfl rfl rfl e2 rfl .p1 rfl <| ARun.ghost <| ImpX.eqs (s := 1) (av' := .sl 8 b_1 0 (p1x0.set v1.1.toNat (⟨v2.Time, v2.Count, v2.Sum, v2.Min, v2.Max, v25.1, v2.Last⟩ : Bucket)).length) rfl (by rw [List.length_set]) <| ImpX.here <| ARun.ghost <| ImpX.eqs (s := 6) (av' := .sl 8 b_1 0 (p1x0.set v1.1.toNat (⟨v2.Time, v2.Count, v2.Sum, v2.Min, v2.Max, v25.1, v2.Last⟩ : Bucket)).length) rfl (by rw [List.length_set]) <| ImpX.here <| ARun.ghost <| ImpX.eqs (s := 10) (av' := .sl 8 b_1 0 (p1x0.set v1.1.toNat (⟨v2.Time, v2.Count, v2.Sum, v2.Min, v2.Max, v25.1, v2.Last⟩ : Bucket)).length) rfl (by rw [List.length_set]) <| ImpX.here <| ARun.ghost <| ImpX.eqs (s := 12) (av' := .sl 8 b_1 0 (p1x0.set v1.1.toNat (⟨v2.Time, v2.Count, v2.Sum, v2.Min, v2.Max, v25.1, v2.Last⟩ : Bucket)).length) rfl (by rw [List.length_set]) <| ImpX.here <| ARun.qv (q_nilCheck_aptr rfl) rfl <| ARun.qv (t_field_aptr rfl rfl) rfl <| t_store_aptr1 (g := Bucket.av) (el' := (⟨v2.Time, v2.Count, v2.Sum, v2.Min, v2.Max, v25.1, v26.1⟩ : Bucket)) rfl rfl rfl rfl (idx_set_self (v := (⟨v2.Time, v2.Count, v2.Sum, v2.Min, v2.Max, v25.1, v2.Last⟩ : Bucket)) e2) rfl .p1 rfl <| ARun.ghost <| ImpX.eqs (s := 1) (av' := .sl 8 b_1 0 ((p1x0.set v1.1.toNat (⟨v2.Time, v2.Count, v2.Sum, v2.Min, v2.Max, v25.1, v2.Last⟩ : Bucket)).set v1.1.toNat (⟨v2.Time, v2.Count, v2.Sum, v2.Min, v2.Max, v25.1, v26.1⟩ : Bucket)).length) rfl (by rw [List.length_set]) <| ImpX.here <| ARun.ghost <| ImpX.eqs (s := 6) (av' := .sl 8 b_1 0 ((p1x0.set v1.1.toNat (⟨v2.Time, v2.Count, v2.Sum, v2.Min, v2.Max, v25.1, v2.Last⟩ : Bucket)).set v1.1.toNat (⟨v2.Time, v2.Count, v2.Sum, v2.Min, v2.Max, v25.1, v26.1⟩ : Bucket)).length) rfl (by rw [List.length_set]) <| ImpX.here <| ARun.ghost <| ImpX.eqs (s := 10) (av' := .sl 8 b_1 0 ((p1x0.set v1.1.toNat (⟨v2.Time, v2.Count, v2.Sum, v2.Min, v2.Max, v25.1, v2.Last⟩ : Bucket)).set v1.1.toNat (⟨v2.Time, v2.Count, v2.Sum, v2.Min, v2.Max, v25.1, v26.1⟩ : Bucket)).length) rfl (by rw [List.length_set]) <| ImpX.here <| ARun.ghost <| ImpX.eqs (s := 12) (av' := .sl 8 b_1 0 ((p1x0.set v1.1.toNat (⟨v2.Time, v2.Count, v2.Sum, v2.Min, v2.Max, v25.1, v2.Last⟩ : Bucket)).set v1.1.toNat (⟨v2.Time, v2.Count, v2.Sum, v2.Min, v2.Max, v25.1, v26.1⟩ : Bucket)).length) rfl (by rw [List.length_set]) <| ImpX.here <| rN <| ATodo.stop <| ImpX.lq [0, 0] ⟨v26.2.L, v26.2.at_, (p1x0.set v1.1.toNat (⟨v2.Time, v2.Count, v2.Sum, v2.Min, v2.Max, v25.1, v2.Last⟩ : Bucket)).set v1.1.toNat (⟨v2.Time, v2.Count, v2.Sum, v2.Min, v2.Max, v25.1, v26.1⟩ : Bucket), h, rfl⟩ rfl rfl
                    · rintro σ' ⟨l20, n21, l22, h, rfl⟩
                      unfold Stream_SpoiltBuckets_j5 at h
                      exact ATodo.stop <| ImpX.lq [0, 0] ⟨l20, n21, l22, h, rfl⟩ rfl rfl
                · rintro σ' ⟨l16, n17, l18, h, rfl⟩
                  unfold Stream_SpoiltBuckets_j4 at h
                  exact ATodo.stop <| ImpX.lq [0, 0] ⟨l16, n17, l18, h, rfl⟩ rfl rfl
            · rintro σ' ⟨l12, n13, l14, h, rfl⟩
              unfold Stream_SpoiltBuckets_j3 at h
              exact ATodo.stop <| ImpX.lq [0, 0] ⟨l12, n13, l14, h, rfl⟩ rfl rfl
        · rintro σ' ⟨l8, n9, l10, h, rfl⟩
          unfold Stream_SpoiltBuckets_j2 at h
          exact ATodo.stop <| ImpX.lq [0, 0] ⟨l8, n9, l10, h, rfl⟩ rfl rfl
    · rintro σ' ⟨l4, n5, l6, h, rfl⟩
      unfold Stream_SpoiltBuckets_j1 at h
      refine ATodo.blk <| tSR <| rM rfl rfl <| rA rfl rfl <| rN <| ATodo.ret <| ?_
      obtain rfl := Option.some.inj h
      exact ImpX.here ⟨_, .cons (.tmp _ _ rfl) .nil, _, .cons .p0 (.cons .p0 .nil), ⟨b_1, rfl, rfl⟩⟩

set_option maxHeartbeats 4000000 in
theorem series_CheckBuckets_c [GI : GTab] {p0x0 : List Bucket} {r : Int} (h : series_CheckBuckets p0x0 = some r) : Pu Try.prog 18 [.list 8 (p0x0.map Bucket.av)] (I r) := by
  unfold series_CheckBuckets at h
  refine ACall.bodyN Try.func18 rfl Try.ntmps18 Try.results18 rfl rfl ?_
  refine tSR <| rA rfl rfl <| rN <| tS <| tSR <| rM rfl rfl <| ARun.qv (t_len rfl) rfl <| ARun.qv (q_gtr rfl rfl) rfl <| rN <| ATodo.cond_d rfl (fun hc => ?_) (fun hc => ?_)
  · refine have h := iteT hc h; tSR <| rA rfl rfl <| rN <| ATodo.ret <| ?_
    obtain rfl := Option.some.inj h
    exact ImpX.here ⟨_, .cons (.tmp _ _ rfl) .nil, rfl⟩
  · refine have h := iteF hc h; tK <| tS <| tSR <| rM rfl rfl <| ARun.qv (t_len rfl) rfl <| rM rfl rfl <| rN <| ATodo.block <| ATodo.loopI (fun x : Int => series_CheckBuckets_b1 p0x0 x) (fun x σ' => σ' = ⟨130, [(0, .list 8 (p0x0.map Bucket.av)), (9, .list 8 (p0x0.map Bucket.av)), (10, I (p0x0.length : Int)), (11, I x)], []⟩) h ?_ ?_
    · exact ImpX.lq [] rfl rfl rfl
    · intro n2 z1 σ' J1 hmk h hJ1 hA1
      obtain rfl := hmk
      replace h : series_CheckBuckets_b1 p0x0 n2 = some z1 := h
      unfold series_CheckBuckets_b1 at h
      refine tSR <| ARun.qv (q_lss rfl rfl) rfl <| rN <| tS <| ATodo.cond_d rfl (fun hc => ?_) (fun hc => ?_)
      · refine have h := iteT hc h; tK <| tS <| ATodo.block <| tSR <| rM rfl rfl <| bndE h fun v3 e1 h => ARun.qv (t_index rfl rfl rfl e1 rfl rfl) rfl <| ARun.qv (q_load_rptr_agg rfl rfl rfl) rfl <| n_alloc rfl rfl rfl rfl fun b4 => rA rfl rfl <| n_store_ptr rfl rfl rfl rfl .p0 rfl rfl <| rN <| tSR <| rF rfl rfl rfl <| ARun.qv (n_load_ptr_part rfl rfl .p0 rfl rfl) rfl <| n_alloc rfl rfl rfl rfl fun b5 => n_store_ptr rfl rfl rfl rfl .p0 rfl rfl <| rN <| ATodo.block <| tS <| ATodo.cut (fun σ' => ∃ (c6 : Bool), series_CheckBuckets_j1 p0x0 n2 v3 c6 = some z1 ∧ σ' = ⟨130, [(0, .list 8 (p0x0.map Bucket.av)), (3, I n2), (4, .ptr b4 0), (5, .ptr b5 0), (9, .list 8 (p0x0.map Bucket.av)), (10, I (p0x0.length : Int)), (11, I n2), (18, .bool c6)], [(b4, .cells [I v3.Time.From, I v3.Time.To, I v3.Count, I v3.Sum, I v3.Min, I v3.Max, I v3.First, I v3.Last]), (b5, .cells [I v3.Time.From, I v3.Time.To])]⟩) ?_ ?_
        · refine tR <| rF rfl rfl rfl <| rL rfl rfl .p0 rfl rfl <| ARun.qv (q_lss rfl rfl) rfl <| rM rfl rfl <| ARun.guard_df rfl rfl rfl (fun hc => ?_) (fun hc => ?_)
          · rw [orFd hc] at h
            refine rF rfl rfl rfl <| rY rfl rfl rfl <| rL rfl rfl .p0 rfl rfl <| rY rfl rfl rfl <| rF rfl rfl rfl <| rY rfl rfl rfl <| rL rfl rfl .p0 rfl rfl <| rY rfl rfl rfl <| ARun.qv (q_geq rfl rfl) rfl <| rE rfl rfl rfl <| rM rfl rfl <| ARun.guard_df rfl rfl rfl (fun hc => ?_) (fun hc => ?_)
            · rw [orFd hc] at h
              exact rF rfl rfl rfl <| rY rfl rfl rfl <| rL rfl rfl .p0 rfl rfl <| rY rfl rfl rfl <| ARun.qv (q_gtr rfl rfl) rfl <| rE rfl rfl rfl <| rA rfl rfl <| rN <| ATodo.stop <| ImpX.lq [1, 0] ⟨decide ((691372800000 : Int) < v3.Time.To), h, rfl⟩ rfl rfl
            · rw [orTd hc] at h
              exact rG rfl rfl rfl rfl <| rG rfl rfl rfl rfl <| rT rfl rfl rfl <| rA rfl rfl <| rN <| ATodo.stop <| ImpX.lq [1, 0] ⟨true, h, rfl⟩ rfl rfl
          · rw [orTd hc] at h
            exact rG rfl rfl rfl rfl <| rG rfl rfl rfl rfl <| rG rfl rfl rfl rfl <| rG rfl rfl rfl rfl <| rT rfl rfl rfl <| rM rfl rfl <| rG rfl rfl rfl rfl <| rG rfl rfl rfl rfl <| rG rfl rfl rfl rfl <| rT rfl rfl rfl <| rA rfl rfl <| rN <| ATodo.stop <| ImpX.lq [1, 0] ⟨true, h, rfl⟩ rfl rfl
        · rintro σ' ⟨c6, h, rfl⟩
          unfold series_CheckBuckets_j1 at h
          refine ATodo.cond rfl (fun hc => ?_) (fun hc => ?_)
          · refine have h := iteT hc h; tSR <| rA rfl rfl <| rN <| ATodo.ret <| have h := outL h hA1; ?_
            obtain rfl := Option.some.inj h
            exact ImpX.here ⟨_, .cons (.tmp _ _ rfl) .nil, rfl⟩
          · refine have h := iteFb hc h; tS <| ATodo.cut (fun σ' => ∃ (c7 : Bool), series_CheckBuckets_j2 p0x0 n2 v3 c7 = some z1 ∧ σ' = ⟨130, [(0, .list 8 (p0x0.map Bucket.av)), (3, I n2), (4, .ptr b4 0), (5, .ptr b5 0), (9, .list 8 (p0x0.map Bucket.av)), (10, I (p0x0.length : Int)), (11, I n2), (34, .bool c7)], [(b4, .cells [I v3.Time.From, I v3.Time.To, I v3.Count, I v3.Sum, I v3.Min, I v3.Max, I v3.First, I v3.Last]), (b5, .cells [I v3.Time.From, I v3.Time.To])]⟩) ?_ ?_
            · refine ATodo.regionM (id := 9) (A := [0, 1, 0, 4, 15, 0, 32, 96, 224, 480, 0, 1024, 3072, 7168, 15360, 32736, 65535, 131071, 262143, 524287, 262143, 1310719, 262143, 4456447, 15990783, 33554431, 67108863, 134217727, 268435455]) 29 mixed rfl (by kernel_rfl) (by kernel_rfl) <| AM.qv (n_field_ptr rfl rfl) rfl <| AM.qv (q_load_ptr rfl rfl .p1 rfl) rfl <| AM.qv (n_field_ptr rfl rfl) rfl <| AM.qv (q_load_ptr rfl rfl .p1 rfl) rfl <| AM.qv (q_subw rfl rfl) rfl <| AM.qv (q_move rfl) rfl <| bndE h fun v8 e2 h => AM.qv (t_index rfl rfl rfl e2 rfl rfl) rfl <| AM.qv (n_field_rptr rfl rfl) rfl <| AM.qv (n_field_rptr rfl rfl) rfl <| AM.qv (q_load_rptr rfl rfl rfl) rfl <| AM.qv (q_move rfl) rfl <| bndE h fun v9 e3 h => AM.qv (t_index rfl rfl rfl e3 rfl rfl) rfl <| AM.qv (n_field_rptr rfl rfl) rfl <| AM.qv (n_field_rptr rfl rfl) rfl <| AM.qv (q_load_rptr rfl rfl rfl) rfl <| AM.qv (q_subw rfl rfl) rfl <| AM.qv (q_neq rfl rfl) rfl <| AM.qv (q_move rfl) rfl <| AM.guard_df rfl rfl rfl (fun hc => ?_) (fun hc => ?_)
              · exact have h := iteF hc h; AM.qv (n_field_ptr rfl rfl) rfl <| AM.guard_yes rfl rfl rfl <| AM.qv (q_load_ptr rfl rfl .p1 rfl) rfl <| AM.guard_yes rfl rfl rfl <| AM.qv (n_field_ptr rfl rfl) rfl <| AM.guard_yes rfl rfl rfl <| AM.qv (q_load_ptr rfl rfl .p1 rfl) rfl <| AM.guard_yes rfl rfl rfl <| AM.qv (n_field_ptr rfl rfl) rfl <| AM.guard_yes rfl rfl rfl <| AM.qv (q_load_ptr rfl rfl .p1 rfl) rfl <| AM.guard_yes rfl rfl rfl <| AM.qv (q_subw rfl rfl) rfl <| AM.guard_yes rfl rfl rfl <| bndE h fun n10 e4 h => AM.qv (t_remS rfl rfl e4) rfl <| AM.guard_yes rfl rfl rfl <| AM.qv (q_neq rfl rfl) rfl <| AM.qv (q_pick_f rfl rfl) rfl <| AM.qv (q_assign rfl) rfl <| AM.nil <| rN <| ATodo.stop <| ImpX.lq [0, 0] ⟨decide (n10 ≠ (0 : Int)), h, rfl⟩ rfl rfl
              · exact have h := iteT hc h; AM.guard_no rfl rfl rfl rfl <| AM.guard_no rfl rfl rfl rfl <| AM.guard_no rfl rfl rfl rfl <| AM.guard_no rfl rfl rfl rfl <| AM.guard_no rfl rfl rfl rfl <| AM.guard_no rfl rfl rfl rfl <| AM.guard_no rfl rfl rfl rfl <| AM.guard_no rfl rfl rfl rfl <| AM.qv (q_pick_t rfl rfl) rfl <| AM.qv (q_assign rfl) rfl <| AM.nil <| rN <| ATodo.stop <| ImpX.lq [0, 0] ⟨true, h, rfl⟩ rfl rfl
            · rintro σ' ⟨c7, h, rfl⟩
              unfold series_CheckBuckets_j2 at h
              refine ATodo.cond rfl (fun hc => ?_) (fun hc => ?_)
              · refine have h := iteT hc h; tSR <| rA rfl rfl <| rN <| ATodo.ret <| have h := outL h hA1; ?_
                obtain rfl := Option.some.inj h
                exact ImpX.here ⟨_, .cons (.tmp _ _ rfl) .nil, rfl⟩
              · refine have h := iteFb hc h; tSR <| rF rfl rfl rfl <| rL rfl rfl .p0 rfl rfl <| r_callp rfl (base_Out_c rfl) (CoL.refl _) rfl <| rA rfl rfl <| rN <| ATodo.cond rfl (fun hc => ?_) (fun hc => ?_)
                · refine have h := iteT hc h; tSR <| rA rfl rfl <| rN <| ATodo.ret <| have h := outL h hA1; ?_
                  obtain rfl := Option.some.inj h
                  exact ImpX.here ⟨_, .cons (.tmp _ _ rfl) .nil, rfl⟩
                · refine have h := iteFb hc h; tS <| ATodo.cut (fun σ' => ∃ (c11 : Bool), series_CheckBuckets_j3 p0x0 n2 v3 c11 = some z1 ∧ σ' = ⟨130, [(0, .list 8 (p0x0.map Bucket.av)), (3, I n2), (4, .ptr b4 0), (5, .ptr b5 0), (9, .list 8 (p0x0.map Bucket.av)), (10, I (p0x0.length : Int)), (11, I n2), (67, .bool c11)], [(b4, .cells [I v3.Time.From, I v3.Time.To, I v3.Count, I v3.Sum, I v3.Min, I v3.Max, I v3.First, I v3.Last]), (b5, .cells [I v3.Time.From, I v3.Time.To])]⟩) ?_ ?_
                  · refine tR <| rF rfl rfl rfl <| rL rfl rfl .p0 rfl rfl <| rF rfl rfl rfl <| rL rfl rfl .p0 rfl rfl <| ARun.qv (q_gtr rfl rfl) rfl <| rM rfl rfl <| ARun.guard_df rfl rfl rfl (fun hc => ?_) (fun hc => ?_)
                    · rw [orFd hc] at h
                      refine rF rfl rfl rfl <| rY rfl rfl rfl <| rL rfl rfl .p0 rfl rfl <| rY rfl rfl rfl <| rF rfl rfl rfl <| rY rfl rfl rfl <| rL rfl rfl .p0 rfl rfl <| rY rfl rfl rfl <| rF rfl rfl rfl <| rY rfl rfl rfl <| rL rfl rfl .p0 rfl rfl <| rY rfl rfl rfl <| r_callp rfl (base_Out_c rfl) (CoL.refl _) rfl <| rE rfl rfl rfl <| rM rfl rfl <| ARun.guard rfl rfl rfl (fun hc => ?_) (fun hc => ?_)
                      · rw [orFb hc] at h
                        exact rF rfl rfl rfl <| rY rfl rfl rfl <| rL rfl rfl .p0 rfl rfl <| rY rfl rfl rfl <| rF rfl rfl rfl <| rY rfl rfl rfl <| rL rfl rfl .p0 rfl rfl <| rY rfl rfl rfl <| rF rfl rfl rfl <| rY rfl rfl rfl <| rL rfl rfl .p0 rfl rfl <| rY rfl rfl rfl <| r_callp rfl (base_Out_c rfl) (CoL.refl _) rfl <| rE rfl rfl rfl <| rA rfl rfl <| rN <| ATodo.stop <| ImpX.lq [0, 0] ⟨(base_Out v3.Last v3.Min v3.Max), h, rfl⟩ rfl rfl
                      · rw [orTb hc] at h
                        exact rG rfl rfl rfl rfl <| rG rfl rfl rfl rfl <| rG rfl rfl rfl rfl <| rG rfl rfl rfl rfl <| rG rfl rfl rfl rfl <| rG rfl rfl rfl rfl <| rT rfl rfl rfl <| rA rfl rfl <| rN <| ATodo.stop <| ImpX.lq [0, 0] ⟨true, h, rfl⟩ rfl rfl
                    · rw [orTd hc] at h
                      exact rG rfl rfl rfl rfl <| rG rfl rfl rfl rfl <| rG rfl rfl rfl rfl <| rG rfl rfl rfl rfl <| rG rfl rfl rfl rfl <| rG rfl rfl rfl rfl <| rT rfl rfl rfl <| rM rfl rfl <| rG rfl rfl rfl rfl <| rG rfl rfl rfl rfl <| rG rfl rfl rfl rfl <| rG rfl rfl rfl rfl <| rG rfl rfl rfl rfl <| rG rfl rfl rfl rfl <| rG rfl rfl rfl rfl <| rT rfl rfl rfl <| rA rfl rfl <| rN <| ATodo.stop <| ImpX.lq [0, 0] ⟨true, h, rfl⟩ rfl rfl
                  · rintro σ' ⟨c11, h, rfl⟩
                    unfold series_CheckBuckets_j3 at h
                    refine ATodo.cond rfl (fun hc => ?_) (fun hc => ?_)
                    · refine have h := iteT hc h; tSR <| rA rfl rfl <| rN <| ATodo.ret <| have h := outL h hA1; ?_
                      obtain rfl := Option.some.inj h
                      exact ImpX.here ⟨_, .cons (.tmp _ _ rfl) .nil, rfl⟩
                    · refine have h := iteFb hc h; tS <| ATodo.cut (fun σ' => ∃ (c12 : Bool), series_CheckBuckets_j4 p0x0 n2 v3 c12 = some z1 ∧ σ' = ⟨130, [(0, .list 8 (p0x0.map Bucket.av)), (3, I n2), (4, .ptr b4 0), (5, .ptr b5 0), (9, .list 8 (p0x0.map Bucket.av)), (10, I (p0x0.length : Int)), (11, I n2), (91, .bool c12)], [(b4, .cells [I v3.Time.From, I v3.Time.To, I v3.Count, I v3.Sum, I v3.Min, I v3.Max, I v3.First, I v3.Last]), (b5, .cells [I v3.Time.From, I v3.Time.To])]⟩) ?_ ?_
                      · refine tR <| rF rfl rfl rfl <| rL rfl rfl .p0 rfl rfl <| ARun.qv (q_lss rfl rfl) rfl <| rM rfl rfl <| ARun.guard_df rfl rfl rfl (fun hc => ?_) (fun hc => ?_)
                        · rw [orFd hc] at h
                          exact rF rfl rfl rfl <| rY rfl rfl rfl <| rL rfl rfl .p0 rfl rfl <| rY rfl rfl rfl <| ARun.qv (q_gtr rfl rfl) rfl <| rE rfl rfl rfl <| rA rfl rfl <| rN <| ATodo.stop <| ImpX.lq [0, 0] ⟨decide ((1000000000 : Int) < v3.Max), h, rfl⟩ rfl rfl
                        · rw [orTd hc] at h
                          exact rG rfl rfl rfl rfl <| rG rfl rfl rfl rfl <| rT rfl rfl rfl <| rA rfl rfl <| rN <| ATodo.stop <| ImpX.lq [0, 0] ⟨true, h, rfl⟩ rfl rfl
                      · rintro σ' ⟨c12, h, rfl⟩
                        unfold series_CheckBuckets_j4 at h
                        refine ATodo.cond rfl (fun hc => ?_) (fun hc => ?_)
                        · refine have h := iteT hc h; tSR <| rA rfl rfl <| rN <| ATodo.ret <| have h := outL h hA1; ?_
                          obtain rfl := Option.some.inj h
                          exact ImpX.here ⟨_, .cons (.tmp _ _ rfl) .nil, rfl⟩
                        · refine have h := iteFb hc h; tSR <| rF rfl rfl rfl <| rL rfl rfl .p0 rfl rfl <| rF rfl rfl rfl <| rL rfl rfl .p0 rfl rfl <| rF rfl rfl rfl <| rL rfl rfl .p0 rfl rfl <| ARun.qv (q_mulw rfl rfl) rfl <| rF rfl rfl rfl <| rL rfl rfl .p0 rfl rfl <| rF rfl rfl rfl <| rL rfl rfl .p0 rfl rfl <| ARun.qv (q_mulw rfl rfl) rfl <| r_callp rfl (base_Out_c rfl) (CoL.refl _) rfl <| rA rfl rfl <| rN <| ATodo.cond rfl (fun hc => ?_) (fun hc => ?_)
                          · refine have h := iteT hc h; tSR <| rA rfl rfl <| rN <| ATodo.ret <| have h := outL h hA1; ?_
                            obtain rfl := Option.some.inj h
                            exact ImpX.here ⟨_, .cons (.tmp _ _ rfl) .nil, rfl⟩
                          · refine have h := iteFb hc h; tS <| ATodo.cut (fun σ' => ∃ (c13 : Bool), series_CheckBuckets_j5 n2 c13 = some z1 ∧ σ' = ⟨130, [(0, .list 8 (p0x0.map Bucket.av)), (9, .list 8 (p0x0.map Bucket.av)), (10, I (p0x0.length : Int)), (11, I n2), (114, .bool c13)], []⟩) ?_ ?_
                            · refine ATodo.regionM (id := 19) (A := [0, 1, 3, 7, 15, 7, 7, 71, 231, 487, 999, 2023, 4095, 8191, 16383]) 15 mixed rfl (by kernel_rfl) (by kernel_rfl) <| AM.qv (q_move rfl) rfl <| AM.qv (q_gtr rfl rfl) rfl <| AM.qv (q_move rfl) rfl <| AM.guard_dt rfl rfl rfl (fun hc => ?_) (fun hc => ?_)
                              · exact have h := iteT hc h; AM.qv (n_field_ptr rfl rfl) rfl <| AM.guard_yes rfl rfl rfl <| AM.qv (q_load_ptr rfl rfl .p1 rfl) rfl <| AM.guard_yes rfl rfl rfl <| AM.qv (q_move rfl) rfl <| AM.guard_yes rfl rfl rfl <| AM.qv (q_move rfl) rfl <| AM.guard_yes rfl rfl rfl <| AM.qv (q_subw rfl rfl) rfl <| AM.guard_yes rfl rfl rfl <| bndE h fun v14 e5 h => AM.qv (t_index rfl rfl rfl e5 rfl rfl) rfl <| AM.guard_yes rfl rfl rfl <| AM.qv (n_field_rptr rfl rfl) rfl <| AM.guard_yes rfl rfl rfl <| AM.qv (n_field_rptr rfl rfl) rfl <| AM.guard_yes rfl rfl rfl <| AM.qv (q_load_rptr rfl rfl rfl) rfl <| AM.guard_yes rfl rfl rfl <| AM.qv (q_leq rfl rfl) rfl <| AM.qv (q_pick_t rfl rfl) rfl <| AM.qv (q_assign rfl) rfl <| AM.nil <| rN <| ATodo.stop <| ImpX.lq [] ⟨decide (v3.Time.From ≤ v14.Time.From), h, rfl⟩ rfl rfl
                              · exact have h := iteF hc h; AM.guard_no rfl rfl rfl rfl <| AM.guard_no rfl rfl rfl rfl <| AM.guard_no rfl rfl rfl rfl <| AM.guard_no rfl rfl rfl rfl <| AM.guard_no rfl rfl rfl rfl <| AM.guard_no rfl rfl rfl rfl <| AM.guard_no rfl rfl rfl rfl <| AM.guard_no rfl rfl rfl rfl <| AM.guard_no rfl rfl rfl rfl <| AM.qv (q_pick_f rfl rfl) rfl <| AM.qv (q_assign rfl) rfl <| AM.nil <| rN <| ATodo.stop <| ImpX.lq [] ⟨false, h, rfl⟩ rfl rfl
                            · rintro σ' ⟨c13, h, rfl⟩
                              unfold series_CheckBuckets_j5 at h
                              refine ATodo.cond rfl (fun hc => ?_) (fun hc => ?_)
                              · refine have h := iteT hc h; tSR <| rA rfl rfl <| rN <| ATodo.ret <| have h := outL h hA1; ?_
                                obtain rfl := Option.some.inj h
                                exact ImpX.here ⟨_, .cons (.tmp _ _ rfl) .nil, rfl⟩
                              · refine have h := iteFb hc h; tK <| ATodo.blk <| ATodo.blk <| tR <| ARun.qv (q_addw rfl rfl) rfl <| rM rfl rfl <| rN <| ATodo.stop <| ?_
                                obtain rfl := Option.some.inj h
                                exact hJ1 _ _ rfl <| ImpX.lq [] rfl rfl rfl
      · refine have h := iteF hc h; ATodo.exit rfl <| have h := outL h hA1; tSR <| rA rfl rfl <| rN <| ATodo.ret <| ?_
        obtain rfl := Option.some.inj h
        exact ImpX.here ⟨_, .cons (.tmp _ _ rfl) .nil, rfl⟩

set_option maxHeartbeats 4000000 in
theorem Q_BucketsFault_c [GI : GTab] {p0x0 : List Bucket} {r : Int} (h : Q_BucketsFault p0x0 = some r) : Pu Try.prog 19 [.list 8 (p0x0.map Bucket.av)] (I r) := by
  unfold Q_BucketsFault at h
  refine ACall.bodyN Try.func19 rfl Try.ntmps19 Try.results19 rfl rfl ?_
  refine tSR <| rA rfl rfl <| rN <| tS <| tSR <| rM rfl rfl <| ARun.qv (t_len rfl) rfl <| ARun.qv (q_gtr rfl rfl) rfl <| rN <| ATodo.cond_d rfl (fun hc => ?_) (fun hc => ?_)
  · refine have h := iteT hc h; tSR <| rA rfl rfl <| rN <| ATodo.ret <| ?_
    obtain rfl := Option.some.inj h
    exact ImpX.here ⟨_, .cons (.tmp _ _ rfl) .nil, rfl⟩
  · refine have h := iteF hc h; tK <| tS <| tSR <| rM rfl rfl <| ARun.qv (t_len rfl) rfl <| rM rfl rfl <| rN <| ATodo.block <| ATodo.loopI (fun x : Int => Q_BucketsFault_b1 p0x0 x) (fun x σ' => σ' = ⟨137, [(0, .list 8 (p0x0.map Bucket.av)), (9, .list 8 (p0x0.map Bucket.av)), (10, I (p0x0.length : Int)), (11, I x)], []⟩) h ?_ ?_
    · exact ImpX.lq [] rfl rfl rfl
    · intro n2 z1 σ' J1 hmk h hJ1 hA1
      obtain rfl := hmk
      replace h : Q_BucketsFault_b1 p0x0 n2 = some z1 := h
      unfold Q_BucketsFault_b1 at h
      refine tSR <| ARun.qv (q_lss rfl rfl) rfl <| rN <| tS <| ATodo.cond_d rfl (fun hc => ?_) (fun hc => ?_)
      · refine have h := iteT hc h; tK <| tS <| ATodo.block <| tSR <| rM rfl rfl <| bndE h fun v3 e1 h => ARun.qv (t_index rfl rfl rfl e1 rfl rfl) rfl <| ARun.qv (q_load_rptr_agg rfl rfl rfl) rfl <| n_alloc rfl rfl rfl rfl fun b4 => rA rfl rfl <| n_store_ptr rfl rfl rfl rfl .p0 rfl rfl <| rN <| tSR <| rF rfl rfl rfl <| rF rfl rfl rfl <| rL rfl rfl .p0 rfl rfl <| rF rfl rfl rfl <| rF rfl rfl rfl <| rL rfl rfl .p0 rfl rfl <| ARun.qv (q_subw rfl rfl) rfl <| rA rfl rfl <| rN <| ATodo.block <| tS <| ATodo.cut (fun σ' => ∃ (c5 : Bool), Q_BucketsFault_j1 p0x0 n2 v3 c5 = some z1 ∧ σ' = ⟨137, [(0, .list 8 (p0x0.map Bucket.av)), (3, I n2), (4, .ptr b4 0), (5, I (w64 (v3.Time.To - v3.Time.From))), (9, .list 8 (p0x0.map Bucket.av)), (10, I (p0x0.length : Int)), (11, I n2), (23, .bool c5)], [(b4, .cells [I v3.Time.From, I v3.Time.To, I v3.Count, I v3.Sum, I v3.Min, I v3.Max, I v3.First, I v3.Last])]⟩) ?_ ?_
        · refine tR <| rF rfl rfl rfl <| rF rfl rfl rfl <| rL rfl rfl .p0 rfl rfl <| ARun.qv (q_lss rfl rfl) rfl <| rM rfl rfl <| ARun.guard_df rfl rfl rfl (fun hc => ?_) (fun hc => ?_)
          · rw [orFd hc] at h
            refine rF rfl rfl rfl <| rY rfl rfl rfl <| rF rfl rfl rfl <| rY rfl rfl rfl <| rL rfl rfl .p0 rfl rfl <| rY rfl rfl rfl <| rF rfl rfl rfl <| rY rfl rfl rfl <| rF rfl rfl rfl <| rY rfl rfl rfl <| rL rfl rfl .p0 rfl rfl <| rY rfl rfl rfl <| ARun.qv (q_geq rfl rfl) rfl <| rE rfl rfl rfl <| rM rfl rfl <| ARun.guard_df rfl rfl rfl (fun hc => ?_) (fun hc => ?_)
            · rw [orFd hc] at h
              exact rF rfl rfl rfl <| rY rfl rfl rfl <| rF rfl rfl rfl <| rY rfl rfl rfl <| rL rfl rfl .p0 rfl rfl <| rY rfl rfl rfl <| ARun.qv (q_gtr rfl rfl) rfl <| rE rfl rfl rfl <| rA rfl rfl <| rN <| ATodo.stop <| ImpX.lq [0] ⟨decide ((691372800000 : Int) < v3.Time.To), h, rfl⟩ rfl rfl
            · rw [orTd hc] at h
              exact rG rfl rfl rfl rfl <| rG rfl rfl rfl rfl <| rG rfl rfl rfl rfl <| rT rfl rfl rfl <| rA rfl rfl <| rN <| ATodo.stop <| ImpX.lq [0] ⟨true, h, rfl⟩ rfl rfl
          · rw [orTd hc] at h
            exact rG rfl rfl rfl rfl <| rG rfl rfl rfl rfl <| rG rfl rfl rfl rfl <| rG rfl rfl rfl rfl <| rG rfl rfl rfl rfl <| rG rfl rfl rfl rfl <| rT rfl rfl rfl <| rM rfl rfl <| rG rfl rfl rfl rfl <| rG rfl rfl rfl rfl <| rG rfl rfl rfl rfl <| rG rfl rfl rfl rfl <| rT rfl rfl rfl <| rA rfl rfl <| rN <| ATodo.stop <| ImpX.lq [0] ⟨true, h, rfl⟩ rfl rfl
        · rintro σ' ⟨c5, h, rfl⟩
          unfold Q_BucketsFault_j1 at h
          refine ATodo.cond rfl (fun hc => ?_) (fun hc => ?_)
          · refine have h := iteT hc h; tSR <| rA rfl rfl <| rN <| ATodo.ret <| have h := outL h hA1; ?_
            obtain rfl := Option.some.inj h
            exact ImpX.here ⟨_, .cons (.tmp _ _ rfl) .nil, rfl⟩
          · refine have h := iteFb hc h; tS <| ATodo.cut (fun σ' => ∃ (c6 : Bool), Q_BucketsFault_j2 p0x0 n2 v3 c6 = some z1 ∧ σ' = ⟨137, [(0, .list 8 (p0x0.map Bucket.av)), (3, I n2), (4, .ptr b4 0), (9, .list 8 (p0x0.map Bucket.av)), (10, I (p0x0.length : Int)), (11, I n2), (43, .bool c6)], [(b4, .cells [I v3.Time.From, I v3.Time.To, I v3.Count, I v3.Sum, I v3.Min, I v3.Max, I v3.First, I v3.Last])]⟩) ?_ ?_
            · refine ATodo.regionM (id := 9) (A := [0, 0, 2, 6, 14, 30, 0, 64, 192, 448, 960, 2046, 4095, 8191, 16383, 32767, 65535, 16383, 262143, 524287, 1048575, 2097151]) 22 mixed rfl (by kernel_rfl) (by kernel_rfl) <| AM.qv (q_move rfl) rfl <| AM.qv (q_move rfl) rfl <| bndE h fun v7 e2 h => AM.qv (t_index rfl rfl rfl e2 rfl rfl) rfl <| AM.qv (n_field_rptr rfl rfl) rfl <| AM.qv (n_field_rptr rfl rfl) rfl <| AM.qv (q_load_rptr rfl rfl rfl) rfl <| AM.qv (q_move rfl) rfl <| bndE h fun v8 e3 h => AM.qv (t_index rfl rfl rfl e3 rfl rfl) rfl <| AM.qv (n_field_rptr rfl rfl) rfl <| AM.qv (n_field_rptr rfl rfl) rfl <| AM.qv (q_load_rptr rfl rfl rfl) rfl <| AM.qv (q_subw rfl rfl) rfl <| AM.qv (q_neq rfl rfl) rfl <| AM.qv (q_move rfl) rfl <| AM.guard_df rfl rfl rfl (fun hc => ?_) (fun hc => ?_)
              · exact have h := iteF hc h; AM.qv (n_field_ptr rfl rfl) rfl <| AM.guard_yes rfl rfl rfl <| AM.qv (n_field_ptr rfl rfl) rfl <| AM.guard_yes rfl rfl rfl <| AM.qv (q_load_ptr rfl rfl .p0 rfl) rfl <| AM.guard_yes rfl rfl rfl <| AM.qv (q_move rfl) rfl <| AM.guard_yes rfl rfl rfl <| bndE h fun n9 e4 h => AM.qv (t_remS rfl rfl e4) rfl <| AM.guard_yes rfl rfl rfl <| AM.qv (q_neq rfl rfl) rfl <| AM.qv (q_pick_f rfl rfl) rfl <| AM.qv (q_assign rfl) rfl <| AM.nil <| rN <| ATodo.stop <| ImpX.lq [0] ⟨decide (n9 ≠ (0 : Int)), h, rfl⟩ rfl rfl
              · exact have h := iteT hc h; AM.guard_no rfl rfl rfl rfl <| AM.guard_no rfl rfl rfl rfl <| AM.guard_no rfl rfl rfl rfl <| AM.guard_no rfl rfl rfl rfl <| AM.guard_no rfl rfl rfl rfl <| AM.qv (q_pick_t rfl rfl) rfl <| AM.qv (q_assign rfl) rfl <| AM.nil <| rN <| ATodo.stop <| ImpX.lq [0] ⟨true, h, rfl⟩ rfl rfl
            · rintro σ' ⟨c6, h, rfl⟩
              unfold Q_BucketsFault_j2 at h
              refine ATodo.cond rfl (fun hc => ?_) (fun hc => ?_)
              · refine have h := iteT hc h; tSR <| rA rfl rfl <| rN <| ATodo.ret <| have h := outL h hA1; ?_
                obtain rfl := Option.some.inj h
                exact ImpX.here ⟨_, .cons (.tmp _ _ rfl) .nil, rfl⟩
              · refine have h := iteFb hc h; tSR <| rF rfl rfl rfl <| rL rfl rfl .p0 rfl rfl <| r_callp rfl (Q_in_c rfl) (CoL.refl _) rfl <| ARun.qv (q_not rfl) rfl <| rA rfl rfl <| rN <| ATodo.cond rfl (fun hc => ?_) (fun hc => ?_)
                · refine have h := iteT hc h; tSR <| rA rfl rfl <| rN <| ATodo.ret <| have h := outL h hA1; ?_
                  obtain rfl := Option.some.inj h
                  exact ImpX.here ⟨_, .cons (.tmp _ _ rfl) .nil, rfl⟩
                · refine have h := iteFb hc h; tS <| ATodo.cut (fun σ' => ∃ (c10 : Bool), Q_BucketsFault_j3 p0x0 n2 v3 c10 = some z1 ∧ σ' = ⟨137, [(0, .list 8 (p0x0.map Bucket.av)), (3, I n2), (4, .ptr b4 0), (9, .list 8 (p0x0.map Bucket.av)), (10, I (p0x0.length : Int)), (11, I n2), (70, .bool c10)], [(b4, .cells [I v3.Time.From, I v3.Time.To, I v3.Count, I v3.Sum, I v3.Min, I v3.Max, I v3.First, I v3.Last])]⟩) ?_ ?_
                  · refine tR <| rF rfl rfl rfl <| rL rfl rfl .p0 rfl rfl <| rF rfl rfl rfl <| rL rfl rfl .p0 rfl rfl <| ARun.qv (q_gtr rfl rfl) rfl <| rM rfl rfl <| ARun.guard_df rfl rfl rfl (fun hc => ?_) (fun hc => ?_)
                    · rw [orFd hc] at h
                      refine rF rfl rfl rfl <| rY rfl rfl rfl <| rL rfl rfl .p0 rfl rfl <| rY rfl rfl rfl <| rF rfl rfl rfl <| rY rfl rfl rfl <| rL rfl rfl .p0 rfl rfl <| rY rfl rfl rfl <| rF rfl rfl rfl <| rY rfl rfl rfl <| rL rfl rfl .p0 rfl rfl <| rY rfl rfl rfl <| r_callp rfl (Q_in_c rfl) (CoL.refl _) rfl <| rY rfl rfl rfl <| ARun.qv (q_not rfl) rfl <| rE rfl rfl rfl <| rM rfl rfl <| ARun.guard rfl rfl rfl (fun hc => ?_) (fun hc => ?_)
                      · rw [orFb hc] at h
                        exact rF rfl rfl rfl <| rY rfl rfl rfl <| rL rfl rfl .p0 rfl rfl <| rY rfl rfl rfl <| rF rfl rfl rfl <| rY rfl rfl rfl <| rL rfl rfl .p0 rfl rfl <| rY rfl rfl rfl <| rF rfl rfl rfl <| rY rfl rfl rfl <| rL rfl rfl .p0 rfl rfl <| rY rfl rfl rfl <| r_callp rfl (Q_in_c rfl) (CoL.refl _) rfl <| rY rfl rfl rfl <| ARun.qv (q_not rfl) rfl <| rE rfl rfl rfl <| rA rfl rfl <| rN <| ATodo.stop <| ImpX.lq [0] ⟨!(Q_in v3.Last v3.Min v3.Max), h, rfl⟩ rfl rfl
                      · rw [orTb hc] at h
                        exact rG rfl rfl rfl rfl <| rG rfl rfl rfl rfl <| rG rfl rfl rfl rfl <| rG rfl rfl rfl rfl <| rG rfl rfl rfl rfl <| rG rfl rfl rfl rfl <| rG rfl rfl rfl rfl <| rT rfl rfl rfl <| rA rfl rfl <| rN <| ATodo.stop <| ImpX.lq [0] ⟨true, h, rfl⟩ rfl rfl
                    · rw [orTd hc] at h
                      exact rG rfl rfl rfl rfl <| rG rfl rfl rfl rfl <| rG rfl rfl rfl rfl <| rG rfl rfl rfl rfl <| rG rfl rfl rfl rfl <| rG rfl rfl rfl rfl <| rG rfl rfl rfl rfl <| rT rfl rfl rfl <| rM rfl rfl <| rG rfl rfl rfl rfl <| rG rfl rfl rfl rfl <| rG rfl rfl rfl rfl <| rG rfl rfl rfl rfl <| rG rfl rfl rfl rfl <| rG rfl rfl rfl rfl <| rG rfl rfl rfl rfl <| rG rfl rfl rfl rfl <| rT rfl rfl rfl <| rA rfl rfl <| rN <| ATodo.stop <| ImpX.lq [0] ⟨true, h, rfl⟩ rfl rfl
                  · rintro σ' ⟨c10, h, rfl⟩
                    unfold Q_BucketsFault_j3 at h
                    refine ATodo.cond rfl (fun hc => ?_) (fun hc => ?_)
                    · refine have h := iteT hc h; tSR <| rA rfl rfl <| rN <| ATodo.ret <| have h := outL h hA1; ?_
                      obtain rfl := Option.some.inj h
                      exact ImpX.here ⟨_, .cons (.tmp _ _ rfl) .nil, rfl⟩
                    · refine have h := iteFb hc h; tS <| ATodo.cut (fun σ' => ∃ (c11 : Bool), Q_BucketsFault_j4 p0x0 n2 v3 c11 = some z1 ∧ σ' = ⟨137, [(0, .list 8 (p0x0.map Bucket.av)), (3, I n2), (4, .ptr b4 0), (9, .list 8 (p0x0.map Bucket.av)), (10, I (p0x0.length : Int)), (11, I n2), (96, .bool c11)], [(b4, .cells [I v3.Time.From, I v3.Time.To, I v3.Count, I v3.Sum, I v3.Min, I v3.Max, I v3.First, I v3.Last])]⟩) ?_ ?_
                      · refine tR <| rF rfl rfl rfl <| rL rfl rfl .p0 rfl rfl <| ARun.qv (q_lss rfl rfl) rfl <| rM rfl rfl <| ARun.guard_df rfl rfl rfl (fun hc => ?_) (fun hc => ?_)
                        · rw [orFd hc] at h
                          exact rF rfl rfl rfl <| rY rfl rfl rfl <| rL rfl rfl .p0 rfl rfl <| rY rfl rfl rfl <| ARun.qv (q_gtr rfl rfl) rfl <| rE rfl rfl rfl <| rA rfl rfl <| rN <| ATodo.stop <| ImpX.lq [0] ⟨decide ((1000000000 : Int) < v3.Max), h, rfl⟩ rfl rfl
                        · rw [orTd hc] at h
                          exact rG rfl rfl rfl rfl <| rG rfl rfl rfl rfl <| rT rfl rfl rfl <| rA rfl rfl <| rN <| ATodo.stop <| ImpX.lq [0] ⟨true, h, rfl⟩ rfl rfl
                      · rintro σ' ⟨c11, h, rfl⟩
                        unfold Q_BucketsFault_j4 at h
                        refine ATodo.cond rfl (fun hc => ?_) (fun hc => ?_)
                        · refine have h := iteT hc h; tSR <| rA rfl rfl <| rN <| ATodo.ret <| have h := outL h hA1; ?_
                          obtain rfl := Option.some.inj h
                          exact ImpX.here ⟨_, .cons (.tmp _ _ rfl) .nil, rfl⟩
                        · refine have h := iteFb hc h; tSR <| rF rfl rfl rfl <| rL rfl rfl .p0 rfl rfl <| rF rfl rfl rfl <| rL rfl rfl .p0 rfl rfl <| rF rfl rfl rfl <| rL rfl rfl .p0 rfl rfl <| ARun.qv (q_mulw rfl rfl) rfl <| rF rfl rfl rfl <| rL rfl rfl .p0 rfl rfl <| rF rfl rfl rfl <| rL rfl rfl .p0 rfl rfl <| ARun.qv (q_mulw rfl rfl) rfl <| r_callp rfl (Q_in_c rfl) (CoL.refl _) rfl <| ARun.qv (q_not rfl) rfl <| rA rfl rfl <| rN <| ATodo.cond rfl (fun hc => ?_) (fun hc => ?_)
                          · refine have h := iteT hc h; tSR <| rA rfl rfl <| rN <| ATodo.ret <| have h := outL h hA1; ?_
                            obtain rfl := Option.some.inj h
                            exact ImpX.here ⟨_, .cons (.tmp _ _ rfl) .nil, rfl⟩
                          · refine have h := iteFb hc h; tS <| ATodo.cut (fun σ' => ∃ (c12 : Bool), Q_BucketsFault_j5 n2 c12 = some z1 ∧ σ' = ⟨137, [(0, .list 8 (p0x0.map Bucket.av)), (9, .list 8 (p0x0.map Bucket.av)), (10, I (p0x0.length : Int)), (11, I n2), (120, .bool c12)], []⟩) ?_ ?_
                            · refine ATodo.regionM (id := 19) (A := [0, 1, 3, 7, 15, 31, 7, 7, 135, 455, 967, 1991, 4039, 8191, 16383, 32767]) 16 mixed rfl (by kernel_rfl) (by kernel_rfl) <| AM.qv (q_move rfl) rfl <| AM.qv (q_gtr rfl rfl) rfl <| AM.qv (q_move rfl) rfl <| AM.guard_dt rfl rfl rfl (fun hc => ?_) (fun hc => ?_)
                              · exact have h := iteT hc h; AM.qv (n_field_ptr rfl rfl) rfl <| AM.guard_yes rfl rfl rfl <| AM.qv (n_field_ptr rfl rfl) rfl <| AM.guard_yes rfl rfl rfl <| AM.qv (q_load_ptr rfl rfl .p0 rfl) rfl <| AM.guard_yes rfl rfl rfl <| AM.qv (q_move rfl) rfl <| AM.guard_yes rfl rfl rfl <| AM.qv (q_move rfl) rfl <| AM.guard_yes rfl rfl rfl <| AM.qv (q_subw rfl rfl) rfl <| AM.guard_yes rfl rfl rfl <| bndE h fun v13 e5 h => AM.qv (t_index rfl rfl rfl e5 rfl rfl) rfl <| AM.guard_yes rfl rfl rfl <| AM.qv (n_field_rptr rfl rfl) rfl <| AM.guard_yes rfl rfl rfl <| AM.qv (n_field_rptr rfl rfl) rfl <| AM.guard_yes rfl rfl rfl <| AM.qv (q_load_rptr rfl rfl rfl) rfl <| AM.guard_yes rfl rfl rfl <| AM.qv (q_leq rfl rfl) rfl <| AM.qv (q_pick_t rfl rfl) rfl <| AM.qv (q_assign rfl) rfl <| AM.nil <| rN <| ATodo.stop <| ImpX.lq [] ⟨decide (v3.Time.From ≤ v13.Time.From), h, rfl⟩ rfl rfl
                              · exact have h := iteF hc h; AM.guard_no rfl rfl rfl rfl <| AM.guard_no rfl rfl rfl rfl <| AM.guard_no rfl rfl rfl rfl <| AM.guard_no rfl rfl rfl rfl <| AM.guard_no rfl rfl rfl rfl <| AM.guard_no rfl rfl rfl rfl <| AM.guard_no rfl rfl rfl rfl <| AM.guard_no rfl rfl rfl rfl <| AM.guard_no rfl rfl rfl rfl <| AM.guard_no rfl rfl rfl rfl <| AM.qv (q_pick_f rfl rfl) rfl <| AM.qv (q_assign rfl) rfl <| AM.nil <| rN <| ATodo.stop <| ImpX.lq [] ⟨false, h, rfl⟩ rfl rfl
                            · rintro σ' ⟨c12, h, rfl⟩
                              unfold Q_BucketsFault_j5 at h
                              refine ATodo.cond rfl (fun hc => ?_) (fun hc => ?_)
                              · refine have h := iteT hc h; tSR <| rA rfl rfl <| rN <| ATodo.ret <| have h := outL h hA1; ?_
                                obtain rfl := Option.some.inj h
                                exact ImpX.here ⟨_, .cons (.tmp _ _ rfl) .nil, rfl⟩
                              · refine have h := iteFb hc h; tK <| ATodo.blk <| ATodo.blk <| tR <| ARun.qv (q_addw rfl rfl) rfl <| rM rfl rfl <| rN <| ATodo.stop <| ?_
                                obtain rfl := Option.some.inj h
                                exact hJ1 _ _ rfl <| ImpX.lq [] rfl rfl rfl
      · refine have h := iteF hc h; ATodo.exit rfl <| have h := outL h hA1; tSR <| rA rfl rfl <| rN <| ATodo.ret <| ?_
        obtain rfl := Option.some.inj h
        exact ImpX.here ⟨_, .cons (.tmp _ _ rfl) .nil, rfl⟩

set_option maxHeartbeats 4000000 in
theorem base_Gcd_c [GI : GTab] {p0x0 : Int} {p1x0 : Int} {r : Int} (h : base_Gcd p0x0 p1x0 = some r) : Pu Try.prog 60 [I p0x0, I p1x0] (I r) := by
  unfold base_Gcd at h
  refine ACall.bodyN Try.func60 rfl Try.ntmps60 Try.results60 rfl rfl ?_
  refine tSR <| rA rfl rfl <| rN <| tS <| ATodo.block <| ATodo.loopI (fun x : Int × Int => base_Gcd_b1 x.1 x.2) (fun x σ' => σ' = ⟨12, [(0, I x.1), (1, I x.2)], []⟩) h ?_ ?_
  · exact ImpX.lq [] rfl rfl rfl
  · intro x z1 σ' J1 hmk h hJ1 hA1
    obtain ⟨n3, n4⟩ := x
    obtain rfl := hmk
    replace h : base_Gcd_b1 n3 n4 = some z1 := h
    unfold base_Gcd_b1 at h
    refine tS <| tSR <| rM rfl rfl <| ARun.qv (q_neq rfl rfl) rfl <| rN <| ATodo.cond_d rfl (fun hc => ?_) (fun hc => ?_)
    · refine have h := iteT hc h; tK <| ATodo.block <| ATodo.regionM (id := 2) (A := [0, 0, 0, 6, 3, 31]) 6 mixed rfl (by kernel_rfl) (by kernel_rfl) <| AM.qv (q_move rfl) rfl <| AM.qv (q_move rfl) rfl <| AM.qv (q_move rfl) rfl <| bndE h fun n5 e1 h => AM.qv (t_remS rfl rfl e1) rfl <| AM.qv (q_assign rfl) rfl <| AM.qv (q_assign rfl) rfl <| AM.nil <| rN <| ATodo.blk <| ATodo.stop <| ?_
      obtain rfl := Option.some.inj h
      exact hJ1 _ _ rfl <| ImpX.lq [] rfl rfl rfl
    · refine have h := iteF hc h; ATodo.exit rfl <| have h := outL h hA1; tSR <| rM rfl rfl <| rA rfl rfl <| rN <| ATodo.ret <| ?_
      obtain rfl := Option.some.inj h
      exact ImpX.here ⟨_, .cons (.tmp _ _ rfl) .nil, rfl⟩

set_option maxHeartbeats 4000000 in
theorem base_Fraction_c [GI : GTab] {p0x0 : Int} {p1x0 : Int} {r : Fraction} (h : base_Fraction p0x0 p1x0 = some r) : Pu Try.prog 41 [I p0x0, I p1x0] (.agg [I r.Num, I r.Den]) := by
  unfold base_Fraction at h
  refine ACall.bodyN Try.func41 rfl Try.ntmps41 Try.results41 rfl rfl ?_
  refine tSR <| n_alloc rfl rfl rfl rfl fun b1 => rN <| tSR <| rM rfl rfl <| rM rfl rfl <| ARun.qv (t_negw rfl) rfl <| ARun.qv (q_max rfl rfl) rfl <| rM rfl rfl <| bndE h fun v2 e1 h => r_callp rfl (base_Gcd_c e1) (CoL.refl _) rfl <| rA rfl rfl <| rN <| tS <| ATodo.regionM (id := 2) (A := [0, 0, 3, 0, 0, 24, 63, 127]) 7 mixed rfl (by kernel_rfl) (by kernel_rfl) <| AM.qv (q_move rfl) rfl <| AM.qv (q_move rfl) rfl <| bndE h fun n3 e2 h => AM.qv (t_quoS rfl rfl e2) rfl <| AM.qv (q_move rfl) rfl <| AM.qv (q_move rfl) rfl <| bndE h fun n4 e3 h => AM.qv (t_quoS rfl rfl e3) rfl <| AM.qv (n_build rfl rfl rfl rfl rfl) rfl <| AM.nil <| n_store_ptr rfl rfl rfl rfl .p0 rfl rfl <| rN <| ATodo.ret <| ?_
  obtain rfl := Option.some.inj h
  exact ImpX.here ⟨_, .cons (.all _ _ _ _ _ _ rfl .p0 TUnder.h TInfo.h rfl rfl) .nil, rfl⟩

set_option maxHeartbeats 4000000 in
theorem series_Mean_c [GI : GTab] {p0x0 : Bucket} {r : Fraction × Int} (h : series_Mean p0x0 = some r) : Pu Try.prog 20 [.agg [I p0x0.Time.From, I p0x0.Time.To, I p0x0.Count, I p0x0.Sum, I p0x0.Min, I p0x0.Max, I p0x0.First, I p0x0.Last]] (.tup [.agg [I r.1.Num, I r.1.Den], I r.2]) := by
  unfold series_Mean at h
  refine ACall.bodyN Try.func20 rfl Try.ntmps20 Try.results20 rfl rfl ?_
  refine tSR <| n_box rfl rfl rfl rfl fun b1 => n_alloc rfl rfl rfl rfl fun b2 => rA rfl rfl <| rN <| tS <| tSR <| ARun.qv (q_load_ptr_all rfl rfl .p1 rfl) rfl <| n_buildSliceL (xs := ([p0x0] : List Bucket).map Bucket.av) rfl rfl rfl rfl rfl rfl <| bndE h fun v3 e1 h => r_callp rfl (series_CheckBuckets_c e1) (CoL.refl _) rfl <| rA rfl rfl <| rN <| tSR <| rM rfl rfl <| ARun.qv (q_neq rfl rfl) rfl <| rN <| ATodo.cond_d rfl (fun hc => ?_) (fun hc => ?_)
  · refine have h := iteT hc h; tSR <| ARun.qv (n_build rfl rfl rfl rfl rfl) rfl <| rM rfl rfl <| n_store_ptr rfl rfl rfl rfl .p0 rfl rfl <| rA rfl rfl <| rN <| ATodo.ret <| ?_
    obtain rfl := Option.some.inj h
    exact ImpX.here ⟨_, .cons (.all _ _ _ _ _ _ rfl .p0 TUnder.h TInfo.h rfl rfl) (.cons (.tmp _ _ rfl) .nil), rfl⟩
  · refine have h := iteF hc h; tK <| tSR <| rF rfl rfl rfl <| rL rfl rfl .p1 rfl rfl <| rF rfl rfl rfl <| rL rfl rfl .p1 rfl rfl <| bndE h fun v4 e2 h => r_callp rfl (base_Fraction_c e2) (CoL.refl _) rfl <| n_store_ptr rfl rfl rfl rfl .p0 rfl rfl <| rA rfl rfl <| rN <| ATodo.ret <| ?_
    obtain rfl := Option.some.inj h
    exact ImpX.here ⟨_, .cons (.all _ _ _ _ _ _ rfl .p0 TUnder.h TInfo.h rfl rfl) (.cons (.tmp _ _ rfl) .nil), rfl⟩

set_option maxHeartbeats 4000000 in
theorem Q_Lowest_c [GI : GTab] {p0x0 : Int} {p1x0 : Int} {r : Fraction} (h : Q_Lowest p0x0 p1x0 = some r) : Pu Try.prog 21 [I p0x0, I p1x0] (.agg [I r.Num, I r.Den]) := by
  unfold Q_Lowest at h
  refine ACall.bodyN Try.func21 rfl Try.ntmps21 Try.results21 rfl rfl ?_
  refine tSR <| n_alloc rfl rfl rfl rfl fun b1 => rN <| tSR <| rM rfl rfl <| rM rfl rfl <| rA rfl rfl <| rA rfl rfl <| rN <| tS <| ATodo.block <| ATodo.loopI (fun x : Int × Int => Q_Lowest_b1 p0x0 p1x0 x.1 x.2) (fun x σ' => σ' = ⟨26, [(0, I p0x0), (1, I p1x0), (4, .ptr b1 0), (5, I x.1), (6, I x.2)], [(b1, .cells [I (0 : Int), I (0 : Int)])]⟩) h ?_ ?_
  · exact ImpX.lq [0] rfl rfl rfl
  · intro x z1 σ' J1 hmk h hJ1 hA1
    obtain ⟨n4, n5⟩ := x
    obtain rfl := hmk
    replace h : Q_Lowest_b1 p0x0 p1x0 n4 n5 = some z1 := h
    unfold Q_Lowest_b1 at h
    refine tS <| tSR <| rM rfl rfl <| ARun.qv (q_neq rfl rfl) rfl <| rN <| ATodo.cond_d rfl (fun hc => ?_) (fun hc => ?_)
    · refine have h := iteT hc h; tK <| ATodo.block <| ATodo.regionM (id := 3) (A := [0, 0, 0, 6, 3, 31]) 6 mixed rfl (by kernel_rfl) (by kernel_rfl) <| AM.qv (q_move rfl) rfl <| AM.qv (q_move rfl) rfl <| AM.qv (q_move rfl) rfl <| bndE h fun n6 e1 h => AM.qv (t_remS rfl rfl e1) rfl <| AM.qv (q_assign rfl) rfl <| AM.qv (q_assign rfl) rfl <| AM.nil <| rN <| ATodo.blk <| ATodo.stop <| ?_
      obtain rfl := Option.some.inj h
      exact hJ1 _ _ rfl <| ImpX.lq [0] rfl rfl rfl
    · refine have h := iteF hc h; ATodo.exit rfl <| have h := outL h hA1; ?_
      unfold Q_Lowest_k2 at h
      refine tS <| tSR <| rM rfl rfl <| ARun.qv (q_lss rfl rfl) rfl <| rN <| ATodo.cut (fun σ' => ∃ (n7 : Int), Q_Lowest_j1 p0x0 p1x0 n7 = some r ∧ σ' = ⟨26, [(0, I p0x0), (1, I p1x0), (4, .ptr b1 0), (5, I n7)], [(b1, .cells [I (0 : Int), I (0 : Int)])]⟩) ?_ ?_
      · refine ATodo.cond_d rfl (fun hc => ?_) (fun hc => ?_)
        · exact have h := iteT hc h; tR <| rM rfl rfl <| ARun.qv (t_negw rfl) rfl <| rA rfl rfl <| rN <| ATodo.stop <| ImpX.lq [0] ⟨w64 (-n4), h, rfl⟩ rfl rfl
        · exact have h := iteF hc h; tK <| ATodo.stop <| ImpX.lq [0] ⟨n4, h, rfl⟩ rfl rfl
      · rintro σ' ⟨n7, h, rfl⟩
        unfold Q_Lowest_j1 at h
        refine tS <| ATodo.regionM (id := 6) (A := [0, 0, 3, 0, 0, 24, 63, 127]) 7 mixed rfl (by kernel_rfl) (by kernel_rfl) <| AM.qv (q_move rfl) rfl <| AM.qv (q_move rfl) rfl <| bndE h fun n8 e2 h => AM.qv (t_quoS rfl rfl e2) rfl <| AM.qv (q_move rfl) rfl <| AM.qv (q_move rfl) rfl <| bndE h fun n9 e3 h => AM.qv (t_quoS rfl rfl e3) rfl <| AM.qv (n_build rfl rfl rfl rfl rfl) rfl <| AM.nil <| n_store_ptr rfl rfl rfl rfl .p0 rfl rfl <| rN <| ATodo.ret <| ?_
        obtain rfl := Option.some.inj h
        exact ImpX.here ⟨_, .cons (.all _ _ _ _ _ _ rfl .p0 TUnder.h TInfo.h rfl rfl) .nil, rfl⟩

end Go.Proofs.Ytblakecmhjcdmaa
