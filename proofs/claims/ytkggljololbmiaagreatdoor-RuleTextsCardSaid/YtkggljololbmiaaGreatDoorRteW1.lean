/- The code computes the plain functions: proofs written by shal.py. -/
import Derived.Test.YtkggljololbmiaaGreatDoorRteP
import Derived.Test.YtkggljololbmiaaGreatDoorLib
set_option maxHeartbeats 4000000
set_option maxRecDepth 100000
set_option linter.unusedVariables false
set_option linter.unusedSimpArgs false
namespace Go.Proofs.YtkggljololbmiaaGreatDoor
open Go Go.Eng Go.Proofs Go.Beacon
attribute [local irreducible] ARun ATodo AQ QV ACall ImpX AWp AM
instance eqg43 : EqGd Tryz.prog 43 := ⟨by kernel_rfl⟩
instance eqt43 : EqTy Tryz.prog 43 2 Rule.av := ⟨fun x y w S v u hv hu=>by
  obtain ⟨vs, rfl, hl, ha⟩ := At.agg_inv hv
  obtain ⟨us, rfl, hl', ha'⟩ := At.agg_inv hu
  obtain ⟨v0, p0, q0⟩ := AtA.get hl ha (off := 0) rfl
  obtain ⟨u0, p0', q0'⟩ := AtA.get hl' ha' (off := 0) rfl
  obtain ⟨v1, p1, q1⟩ := AtA.get hl ha (off := 1) rfl
  obtain ⟨u1, p1', q1'⟩ := AtA.get hl' ha' (off := 1) rfl
  obtain ⟨v2, p2, q2⟩ := AtA.get hl ha (off := 2) rfl
  obtain ⟨u2, p2', q2'⟩ := AtA.get hl' ha' (off := 2) rfl
  obtain ⟨v3, p3, q3⟩ := AtA.get hl ha (off := 3) rfl
  obtain ⟨u3, p3', q3'⟩ := AtA.get hl' ha' (off := 3) rfl
  obtain ⟨v4, p4, q4⟩ := AtA.get hl ha (off := 4) rfl
  obtain ⟨u4, p4', q4'⟩ := AtA.get hl' ha' (off := 4) rfl
  obtain ⟨v5, p5, q5⟩ := AtA.get hl ha (off := 5) rfl
  obtain ⟨u5, p5', q5'⟩ := AtA.get hl' ha' (off := 5) rfl
  obtain ⟨v6, p6, q6⟩ := AtA.get hl ha (off := 6) rfl
  obtain ⟨u6, p6', q6'⟩ := AtA.get hl' ha' (off := 6) rfl
  obtain ⟨v7, p7, q7⟩ := AtA.get hl ha (off := 7) rfl
  obtain ⟨u7, p7', q7'⟩ := AtA.get hl' ha' (off := 7) rfl
  obtain ⟨v8, p8, q8⟩ := AtA.get hl ha (off := 8) rfl
  obtain ⟨u8, p8', q8'⟩ := AtA.get hl' ha' (off := 8) rfl
  obtain ⟨v9, p9, q9⟩ := AtA.get hl ha (off := 9) rfl
  obtain ⟨u9, p9', q9'⟩ := AtA.get hl' ha' (off := 9) rfl
  refine EqR.cast (EqR.struct Tryz.underlying43 (by kernel_rfl) (.cons (by decide) (part_one J p0) (part_one J p0') (EqR.up (EqTy.h (g := AV.str) x.Key y.Key w S _ _ q0 q0') 0)  (.cons (by decide) (part_one J p1) (part_one J p1') (EqR.up (EqTy.h (g := AV.str) x.Metric y.Metric w S _ _ q1 q1') 0)  (.cons (by decide) (part_one J p2) (part_one J p2') (EqR.up (EqTy.h (g := I) x.Agg y.Agg w S _ _ q2 q2') 0)  (.cons (by decide) (part_one J p3) (part_one J p3') (EqR.up (EqTy.h (g := I) x.Long y.Long w S _ _ q3 q3') 0)  (.cons (by decide) (part_one J p4) (part_one J p4') (EqR.up (EqTy.h (g := AV.bool) x.Above y.Above w S _ _ q4 q4') 0)  (.cons (by decide) (part_one J p5) (part_one J p5') (EqR.up (EqTy.h (g := I) x.On y.On w S _ _ q5 q5') 0)  (.cons (by decide) (part_one J p6) (part_one J p6') (EqR.up (EqTy.h (g := I) x.Off y.Off w S _ _ q6 q6') 0)  (.cons (by decide) (part_one J p7) (part_one J p7') (EqR.up (EqTy.h (g := I) x.Hold y.Hold w S _ _ q7 q7') 0)  (.cons (by decide) (part_one J p8) (part_one J p8') (EqR.up (EqTy.h (g := I) x.Rest y.Rest w S _ _ q8 q8') 0)  (.cons (by decide) (part_one J p9) (part_one J p9') (EqR.up (EqTy.h (g := I) x.Empty y.Empty w S _ _ q9 q9') 0) .nil))))))))))) ?_
  obtain ⟨_, _, _, _, _, _, _, _, _, _⟩ := x
  obtain ⟨_, _, _, _, _, _, _, _, _, _⟩ := y
  rw [Bool.eq_iff_iff]; simp [and_assoc]⟩
instance eqg60 : EqGd Tryz.prog 60 := ⟨by kernel_rfl⟩
instance eqt60 : EqTy Tryz.prog 60 2 Spell.av := ⟨fun x y w S v u hv hu=>by
  obtain ⟨vs, rfl, hl, ha⟩ := At.agg_inv hv
  obtain ⟨us, rfl, hl', ha'⟩ := At.agg_inv hu
  obtain ⟨v0, p0, q0⟩ := AtA.get hl ha (off := 0) rfl
  obtain ⟨u0, p0', q0'⟩ := AtA.get hl' ha' (off := 0) rfl
  obtain ⟨v1, p1, q1⟩ := AtA.get hl ha (off := 1) rfl
  obtain ⟨u1, p1', q1'⟩ := AtA.get hl' ha' (off := 1) rfl
  obtain ⟨v2, p2, q2⟩ := AtA.get hl ha (off := 2) rfl
  obtain ⟨u2, p2', q2'⟩ := AtA.get hl' ha' (off := 2) rfl
  obtain ⟨v3, p3, q3⟩ := AtA.get hl ha (off := 3) rfl
  obtain ⟨u3, p3', q3'⟩ := AtA.get hl' ha' (off := 3) rfl
  refine EqR.cast (EqR.struct Tryz.underlying60 (by kernel_rfl) (.cons (by decide) (part_one J p0) (part_one J p0') (EqR.up (EqTy.h (g := AV.str) x.Device y.Device w S _ _ q0 q0') 0)  (.cons (by decide) (part_one J p1) (part_one J p1') (EqR.up (EqTy.h (g := AV.str) x.Rule y.Rule w S _ _ q1 q1') 0)  (.cons (by decide) (part_one J p2) (part_one J p2') (EqR.up (EqTy.h (g := I) x.From y.From w S _ _ q2 q2') 0)  (.cons (by decide) (part_one J p3) (part_one J p3') (EqR.up (EqTy.h (g := I) x.To y.To w S _ _ q3 q3') 0) .nil))))) ?_
  obtain ⟨_, _, _, _⟩ := x
  obtain ⟨_, _, _, _⟩ := y
  rw [Bool.eq_iff_iff]; simp [and_assoc]⟩
instance eqg186 : EqGd Tryz.prog 186 := ⟨by kernel_rfl⟩
instance eqt186 : EqTy Tryz.prog 186 2 Rule_sample.av := ⟨fun x y w S v u hv hu=>by
  obtain ⟨vs, rfl, hl, ha⟩ := At.agg_inv hv
  obtain ⟨us, rfl, hl', ha'⟩ := At.agg_inv hu
  obtain ⟨v0, p0, q0⟩ := AtA.get hl ha (off := 0) rfl
  obtain ⟨u0, p0', q0'⟩ := AtA.get hl' ha' (off := 0) rfl
  obtain ⟨v1, p1, q1⟩ := AtA.get hl ha (off := 1) rfl
  obtain ⟨u1, p1', q1'⟩ := AtA.get hl' ha' (off := 1) rfl
  refine EqR.cast (EqR.struct Tryz.underlying186 (by kernel_rfl) (.cons (by decide) (part_one J p0) (part_one J p0') (EqR.up (EqTy.h (g := I) x.at_ y.at_ w S _ _ q0 q0') 0)  (.cons (by decide) (part_one J p1) (part_one J p1') (EqR.up (EqTy.h (g := I) x.value_ y.value_ w S _ _ q1 q1') 0) .nil))) ?_
  obtain ⟨_, _⟩ := x
  obtain ⟨_, _⟩ := y
  rw [Bool.eq_iff_iff]; simp [and_assoc]⟩
abbrev lE0 (xs : List Int) : AV := .list 1 (xs.map I)
abbrev lE1 (xs : List Str) : AV := .list 1 (xs.map AV.str)
abbrev aE2 (xs : List Rule) : Ob := .arr 10 (xs.map Rule.av)
abbrev lE2 (xs : List Rule) : AV := .list 10 (xs.map Rule.av)
abbrev cE0 (x : Rule) : List AV := [.str x.Key,.str x.Metric,I x.Agg,I x.Long,.bool x.Above,I x.On,I x.Off,I x.Hold,I x.Rest,I x.Empty]
abbrev mE3 (xs : List (Bool × Str)) : Ob := .mp (xs.map (fun e=>(AV.bool e.1,AV.str e.2)))
abbrev aE1 (xs : List Str) : Ob := .arr 1 (xs.map AV.str)
abbrev aE0 (xs : List Int) : Ob := .arr 1 (xs.map I)
abbrev cE1 (x : Sample) : List AV := [.str x.Device,.str x.Metric,I x.At,I x.Value]
abbrev lE4 (xs : List Sample) : AV := .list 4 (xs.map Sample.av)
abbrev aE5 (xs : List Rule_sample) : Ob := .arr 2 (xs.map Rule_sample.av)
abbrev aE6 (xs : List Rule_span) : Ob := .arr 2 (xs.map Rule_span.av)
abbrev lE5 (xs : List Rule_sample) : AV := .list 2 (xs.map Rule_sample.av)
abbrev aE7 (xs : List Spell) : Ob := .arr 4 (xs.map Spell.av)
abbrev lE7 (xs : List Spell) : AV := .list 4 (xs.map Spell.av)
theorem Below_c [GI : GTab] {p0x0 : Int} {p1x0 : Int} {r : Int} (h : Below p0x0 p1x0 = some r) : Pu Tryz.prog 50 [I p0x0,I p1x0] (I r) := by
  unfold Below at h
  refine ACall.bodyN Tryz.func50 J Tryz.ntmps50 Tryz.results50 J J ?_
  refine tSR<|rA J J<|rN<|tS<|tSR<|rM J J<|ARun.qv (q_lss J J) J<|rN<|ATodo.cond_d J (fun hc=>?_) (fun hc=>?_)
  · refine have h := iteT hc h; tSR<|rA J J<|rN<|ATodo.ret<|?_
    obtain rfl := Option.some.inj h
    exact ImpX.here ⟨_,.cons (.tmp _ _ J) .nil,J⟩
  · refine have h := iteF hc h; tK<|tSR<|rM J J<|rM J J<|bndE h fun n1 e1 h=>ARun.qv (t_remS J J e1) J<|rA J J<|rN<|tS<|tSR<|rM J J<|ARun.qv (q_lss J J) J<|rN<|ATodo.cut (fun σ'=>∃ (n2 : Int),Below_j1 n2 = some r ∧ σ' = ⟨16,[(0,I n2)],[]⟩) ?_ ?_
    · refine ATodo.cond_d J (fun hc=>?_) (fun hc=>?_)
      · exact have h := iteT hc h; tR<|rM J J<|rM J J<|ARun.qv (q_addw J J) J<|rA J J<|rN<|ATodo.stop<|ImpX.lq [] ⟨w64 (n1 + p1x0),h,J⟩ J J
      · exact have h := iteF hc h; tK<|ATodo.stop<|ImpX.lq [] ⟨n1,h,J⟩ J J
    · rintro σ' ⟨n2, h, rfl⟩
      unfold Below_j1 at h
      refine tSR<|rM J J<|rA J J<|rN<|ATodo.ret<|?_
      obtain rfl := Option.some.inj h
      exact ImpX.here ⟨_,.cons (.tmp _ _ J) .nil,J⟩

theorem Stream_Next_c [GI : GTab] {b_0 : Bk} {p0x0 : Fleetmake_Stream} {p1x0 : Int} {r : Int × Fleetmake_Stream} (h : Stream_Next p0x0 p1x0 = some r) : ACall Tryz.prog 9 [.ptr b_0 0,I p1x0] [(b_0,.cells [lE0 p0x0.L,I p0x0.at_])] (T0 ([(b_0,.cells [lE0 r.2.L,I r.2.at_])]) (I r.1)) := by
  unfold Stream_Next at h
  refine ACall.lessH ?_
  refine ACall.bodyN Tryz.func9 J Tryz.ntmps9 Tryz.results9 J J ?_
  refine tSR<|rA J J<|rN<|tSR<|rM J J<|ARun.qv (q_nilCheck_ptr J) J<|rF J J J<|rL J J .p0 J J<|ARun.qv (q_addw J J) J<|ARun.qv (q_nilCheck_ptr J) J<|rF J J J<|n_store_ptr J J J J .p0 J J<|rN<|tS<|tSR<|rM J J<|ARun.qv (q_nilCheck_ptr J) J<|rF J J J<|rL J J .p0 J J<|ARun.qv (t_len J) J<|ARun.qv (q_eql J J) J<|rN<|ATodo.cond_d J (fun hc=>?_) (fun hc=>?_)
  · refine have h := iteT hc h; tSR<|rM J J<|ARun.qv (q_nilCheck_ptr J) J<|rF J J J<|rL J J .p0 J J<|ARun.qv (q_mulw J J) J<|rM J J<|bndE h fun v1 e1 h=>r_callp J (Below_c e1) (CoL.refl _) J<|rA J J<|rN<|ATodo.ret<|?_
    obtain rfl := Option.some.inj h
    exact ImpX.here ⟨_,.cons (.tmp _ _ J) .nil,_,.cons .p0 .nil,⟨J,J⟩⟩
  · refine have h := iteF hc h; tK<|tS<|ATodo.regionM (id := 4) (A := [0,1,3,7,15,0,32,96,224,480,1023,2047]) 12 mixed J (by kernel_rfl) (by kernel_rfl)<|AM.qv (q_move J) J<|AM.qv (q_nilCheck_ptr J) J<|AM.qv (n_field_ptr J J) J<|AM.qv (q_load_ptr J J .p0 J) J<|AM.qv (q_subw J J) J<|AM.qv (q_move J) J<|AM.qv (q_nilCheck_ptr J) J<|AM.qv (n_field_ptr J J) J<|AM.qv (q_load_ptr J J .p0 J) J<|AM.qv (t_len J) J<|bndE h fun n2 e2 h=>AM.qv (t_remS J J e2) J<|AM.qv (q_assign J) J<|AM.nil<|rN<|tS<|ATodo.regionM (id := 5) (A := [0,1,3,7,15,0,32,96,224,480,1023,2047]) 12 mixed J (by kernel_rfl) (by kernel_rfl)<|AM.qv (q_move J) J<|AM.qv (q_nilCheck_ptr J) J<|AM.qv (n_field_ptr J J) J<|AM.qv (q_load_ptr J J .p0 J) J<|AM.qv (q_subw J J) J<|AM.qv (q_move J) J<|AM.qv (q_nilCheck_ptr J) J<|AM.qv (n_field_ptr J J) J<|AM.qv (q_load_ptr J J .p0 J) J<|AM.qv (t_len J) J<|bndE h fun n3 e3 h=>AM.qv (t_quoS J J e3) J<|AM.qv (q_assign J) J<|AM.nil<|rN<|tSR<|rM J J<|ARun.qv (q_nilCheck_ptr J) J<|rF J J J<|rL J J .p0 J J<|rM J J<|bndE h fun v4 e4 h=>ARun.qv (t_index J J J e4 J J) J<|ARun.qv (q_load_rptr J J J) J<|bndE h fun v5 e5 h=>r_callp J (Below_c e5) (CoL.refl _) J<|rM J J<|rM J J<|ARun.qv (q_addw J J) J<|ARun.qv (q_mulw J J) J<|ARun.qv (q_addw J J) J<|rM J J<|bndE h fun v6 e6 h=>r_callp J (Below_c e6) (CoL.refl _) J<|rA J J<|rN<|ATodo.ret<|?_
    obtain rfl := Option.some.inj h
    exact ImpX.here ⟨_,.cons (.tmp _ _ J) .nil,_,.cons .p0 .nil,⟨J,J⟩⟩

theorem Stream_Flip_c [GI : GTab] {b_0 : Bk} {p0x0 : Fleetmake_Stream} {p1x0 : Int} {r : Bool × Fleetmake_Stream} (h : Stream_Flip p0x0 p1x0 = some r) : ACall Tryz.prog 48 [.ptr b_0 0,I p1x0] [(b_0,.cells [lE0 p0x0.L,I p0x0.at_])] (T0 ([(b_0,.cells [lE0 r.2.L,I r.2.at_])]) (.bool r.1)) := by
  unfold Stream_Flip at h
  refine ACall.lessH ?_
  refine ACall.bodyN Tryz.func48 J Tryz.ntmps48 Tryz.results48 J J ?_
  refine tSR<|rA J J<|rN<|tSR<|rM J J<|rM J J<|bndE h fun v1 e1 h=>t_call0 J (Stream_Next_c e1) (CoL.refl _) (.cons .p0 .nil) J J<|ARun.qv (q_eql J J) J<|rA J J<|rN<|ATodo.ret<|?_
  obtain rfl := Option.some.inj h
  exact ImpX.here ⟨_,.cons (.tmp _ _ J) .nil,_,.cons .p0 .nil,⟨J,J⟩⟩

theorem Stream_Some_c [GI : GTab] {b_0 : Bk} {p0x0 : Fleetmake_Stream} {p1x0 : List Str} {r : Str × Fleetmake_Stream} (h : Stream_Some p0x0 p1x0 = some r) : ACall Tryz.prog 7 [.ptr b_0 0,lE1 p1x0] [(b_0,.cells [lE0 p0x0.L,I p0x0.at_])] (T0 ([(b_0,.cells [lE0 r.2.L,I r.2.at_])]) (.str r.1)) := by
  unfold Stream_Some at h
  refine ACall.lessH ?_
  refine ACall.bodyN Tryz.func7 J Tryz.ntmps7 Tryz.results7 J J ?_
  refine tSR<|rA J J<|rN<|tSR<|rM J J<|rM J J<|rM J J<|ARun.qv (t_len J) J<|bndE h fun v1 e1 h=>t_call0 J (Stream_Next_c e1) (CoL.refl _) (.cons .p0 .nil) J J<|bndE h fun v2 e2 h=>ARun.qv (t_index J J J e2 J J) J<|ARun.qv (q_load_rptr J J J) J<|rA J J<|rN<|ATodo.ret<|?_
  obtain rfl := Option.some.inj h
  exact ImpX.here ⟨_,.cons (.tmp _ _ J) .nil,_,.cons .p0 .nil,⟨J,J⟩⟩

theorem Stream_Range_c [GI : GTab] {b_0 : Bk} {p0x0 : Fleetmake_Stream} {p1x0 : Int} {p2x0 : Int} {r : Int × Fleetmake_Stream} (h : Stream_Range p0x0 p1x0 p2x0 = some r) : ACall Tryz.prog 21 [.ptr b_0 0,I p1x0,I p2x0] [(b_0,.cells [lE0 p0x0.L,I p0x0.at_])] (T0 ([(b_0,.cells [lE0 r.2.L,I r.2.at_])]) (I r.1)) := by
  unfold Stream_Range at h
  refine ACall.lessH ?_
  refine ACall.bodyN Tryz.func21 J Tryz.ntmps21 Tryz.results21 J J ?_
  refine tSR<|rA J J<|rN<|tS<|tSR<|rM J J<|rM J J<|ARun.qv (q_lss J J) J<|rN<|ATodo.cond_d J (fun hc=>?_) (fun hc=>?_)
  · refine have h := iteT hc h; tSR<|rM J J<|rA J J<|rN<|ATodo.ret<|?_
    obtain rfl := Option.some.inj h
    exact ImpX.here ⟨_,.cons (.tmp _ _ J) .nil,_,.cons .p0 .nil,⟨J,J⟩⟩
  · refine have h := iteF hc h; tK<|tSR<|rM J J<|rM J J<|rM J J<|rM J J<|ARun.qv (q_subw J J) J<|ARun.qv (q_addw J J) J<|bndE h fun v1 e1 h=>t_call0 J (Stream_Next_c e1) (CoL.refl _) (.cons .p0 .nil) J J<|ARun.qv (q_addw J J) J<|rA J J<|rN<|ATodo.ret<|?_
    obtain rfl := Option.some.inj h
    exact ImpX.here ⟨_,.cons (.tmp _ _ J) .nil,_,.cons .p0 .nil,⟨J,J⟩⟩

theorem Stream_Pick_c [GI : GTab] {b_0 : Bk} {p0x0 : Fleetmake_Stream} {p1x0 : List Int} {r : Int × Fleetmake_Stream} (h : Stream_Pick p0x0 p1x0 = some r) : ACall Tryz.prog 8 [.ptr b_0 0,lE0 p1x0] [(b_0,.cells [lE0 p0x0.L,I p0x0.at_])] (T0 ([(b_0,.cells [lE0 r.2.L,I r.2.at_])]) (I r.1)) := by
  unfold Stream_Pick at h
  refine ACall.lessH ?_
  refine ACall.bodyN Tryz.func8 J Tryz.ntmps8 Tryz.results8 J J ?_
  refine tSR<|rA J J<|rN<|tSR<|rM J J<|rM J J<|rM J J<|ARun.qv (t_len J) J<|bndE h fun v1 e1 h=>t_call0 J (Stream_Next_c e1) (CoL.refl _) (.cons .p0 .nil) J J<|bndE h fun v2 e2 h=>ARun.qv (t_index J J J e2 J J) J<|ARun.qv (q_load_rptr J J J) J<|rA J J<|rN<|ATodo.ret<|?_
  obtain rfl := Option.some.inj h
  exact ImpX.here ⟨_,.cons (.tmp _ _ J) .nil,_,.cons .p0 .nil,⟨J,J⟩⟩

theorem Stream_RightRule_c [GI : GTab] {b_0 : Bk} {p0x0 : Fleetmake_Stream} {p1x0 : Str} {r : Rule × Fleetmake_Stream} (h : Stream_RightRule p0x0 p1x0 = some r) : ACall Tryz.prog 79 [.ptr b_0 0,.str p1x0] [(b_0,.cells [lE0 p0x0.L,I p0x0.at_])] (T0 ([(b_0,.cells [lE0 r.2.L,I r.2.at_])]) (Rule.av r.1)) := by
  unfold Stream_RightRule at h
  refine ACall.lessH ?_
  refine ACall.bodyN Tryz.func79 J Tryz.ntmps79 Tryz.results79 J J ?_
  refine tSR<|n_alloc J J J J fun b1=>rN<|tSR<|rM J J<|rM J J<|n_buildSliceL (xs := ([([116] : Str),([116] : Str),([117] : Str)]).map AV.str) J J J J J J<|bndE h fun v2 e1 h=>t_call0 J (Stream_Some_c e1) (CoL.refl _) (.cons .p1 .nil) J J<|rM J J<|bndE h fun v3 e2 h=>t_call0 J (Stream_Range_c e2) (CoL.refl _) (.cons .p0 .nil) J J<|rM J J<|n_buildSliceL (xs := ([(5 : Int),(20 : Int),(50 : Int),(100 : Int)]).map I) J J J J J J<|bndE h fun v4 e3 h=>t_call0 J (Stream_Pick_c e3) (CoL.refl _) (.cons .p0 .nil) J J<|rM J J<|bndE h fun v5 e4 h=>t_call0 J (Stream_Flip_c e4) (CoL.refl _) (.cons .p0 .nil) J J<|rM J J<|n_buildSliceL (xs := ([(0 : Int),(2 : Int),(5 : Int),(8 : Int)]).map I) J J J J J J<|bndE h fun v6 e5 h=>t_call0 J (Stream_Pick_c e5) (CoL.refl _) (.cons .p0 .nil) J J<|rM J J<|n_buildSliceL (xs := ([(0 : Int),(0 : Int),(5 : Int),(15 : Int)]).map I) J J J J J J<|bndE h fun v7 e6 h=>t_call0 J (Stream_Pick_c e6) (CoL.refl _) (.cons .p0 .nil) J J<|rM J J<|n_buildSliceL (xs := ([(0 : Int),(0 : Int),(5 : Int),(15 : Int)]).map I) J J J J J J<|bndE h fun v8 e7 h=>t_call0 J (Stream_Pick_c e7) (CoL.refl _) (.cons .p0 .nil) J J<|rM J J<|n_buildSliceL (xs := ([(0 : Int),(0 : Int),(1 : Int),(2 : Int)]).map I) J J J J J J<|bndE h fun v9 e8 h=>t_call0 J (Stream_Pick_c e8) (CoL.refl _) (.cons .p0 .nil) J J<|ARun.qv (n_build J J J J J) J<|n_alloc J J J J fun b10=>n_store_ptr J J J J .p0 J J<|rN<|tS<|bndE h fun v11 e9 h=>ATodo.regionT (id := 2) (A := [0,1,0,0,12,31,63,127]) (H0 := [(b_0,.cells [lE0 v9.2.L,I v9.2.at_])]) (HH := fun β=>[(b_0,.cells [lE0 v11.2.L,I v11.2.at_]),(b10,.cells [.str p1x0,.str v2.1,I v3.1,I v4.1,.bool v5.1,I v6.1,I (0 : Int),I v7.1,I v8.1,I v9.1]),(b1,.cells [.str [],.str [],I (0 : Int),I (0 : Int),.bool false,I (0 : Int),I (0 : Int),I (0 : Int),I (0 : Int),I (0 : Int)])]) 5 mixed J (by kernel_rfl) (by kernel_rfl) [⟨none,some 4,[],fun _=>(b_0,.cells [lE0 v9.2.L,I v9.2.at_]),none,[]⟩,⟨some 4,none,[],fun _=>(b_0,.cells [lE0 v11.2.L,I v11.2.at_]),none,[]⟩] [] J (by kernel_rfl) J (.cons .p1 .nil) (fun _=>J)<|AT.am 4 J J<|AM.qv (n_field_ptr J J) J<|AM.qv (q_load_ptr J J .p0 J) J<|AM.qv (q_move J) J<|AM.buildSliceL (xs := ([(0 : Int),(0 : Int),(2 : Int),(4 : Int)]).map I) J J J J J J<|AM.nil<|AT.runS (av := I v11.1) (Ti := [(b_0,.cells [lE0 v9.2.L,I v9.2.at_])]) (Pi := [(b_0,.cells [lE0 v11.2.L,I v11.2.at_])]) (fun _=>J) (fun _=>J) (fun _=>J) J J J ?_ ?_
  · exact t_call0 J (Stream_Pick_c e9) (CoL.refl _) (.cons .p0 .nil) J J<|ARun.nil ⟨_,J,J⟩
  refine AT.nilN (fun _=>J) fun β=>ARun.qv (q_subw J J) J<|rF J J J<|n_store_ptr J J J J .p1 J J<|rN<|tS<|tSR<|rF J J J<|rL J J .p1 J J<|ARun.qv (q_not J) J<|rN<|ATodo.cut (fun σ'=>∃ (n12 : Int),Stream_RightRule_j1 p1x0 v2 v3 v4 v5 v6 v7 v8 v9 v11 n12 = some r ∧ σ' = ⟨48,[(4,.ptr b1 0),(5,.ptr b10 0)],[(b_0,.cells [lE0 v11.2.L,I v11.2.at_]),(b1,.cells [.str [],.str [],I (0 : Int),I (0 : Int),.bool false,I (0 : Int),I (0 : Int),I (0 : Int),I (0 : Int),I (0 : Int)]),(b10,.cells [.str p1x0,.str v2.1,I v3.1,I v4.1,.bool v5.1,I v6.1,I n12,I v7.1,I v8.1,I v9.1])]⟩) ?_ ?_
  · refine ATodo.cond J (fun hc=>?_) (fun hc=>?_)
    · exact have h := iteT hc h; tR<|rF J J J<|rL J J .p1 J J<|ARun.qv (q_mulw J J) J<|rF J J J<|rL J J .p1 J J<|ARun.qv (q_subw J J) J<|rF J J J<|n_store_ptr J J J J .p1 J J<|rN<|ATodo.stop<|ImpX.lq [0,1,0] ⟨w64 ((w64 ((2 : Int) * v6.1)) - (w64 (v6.1 - v11.1))),h,J⟩ J J
    · exact have h := iteFb hc h; tK<|ATodo.stop<|ImpX.lq [0,1,0] ⟨w64 (v6.1 - v11.1),h,J⟩ J J
  · rintro σ' ⟨n12, h, rfl⟩
    unfold Stream_RightRule_j1 at h
    refine tSR<|ARun.qv (q_load_ptr_all J J .p2 J) J<|n_store_ptr J J J J .p1 J J<|rN<|ATodo.ret<|?_
    obtain rfl := Option.some.inj h
    exact ImpX.here ⟨_,.cons (.all _ _ _ _ _ _ J .p1 TUnder.h TInfo.h J J) .nil,_,.cons .p0 .nil,⟨J,J⟩⟩

theorem Stream_Odd_c [GI : GTab] {b_0 : Bk} {p0x0 : Fleetmake_Stream} {p1x0 : Int} {p2x0 : Int} {r : Int × Fleetmake_Stream} (h : Stream_Odd p0x0 p1x0 p2x0 = some r) : ACall Tryz.prog 49 [.ptr b_0 0,I p1x0,I p2x0] [(b_0,.cells [lE0 p0x0.L,I p0x0.at_])] (T0 ([(b_0,.cells [lE0 r.2.L,I r.2.at_])]) (I r.1)) := by
  unfold Stream_Odd at h
  refine ACall.lessH ?_
  refine ACall.bodyN Tryz.func49 J Tryz.ntmps49 Tryz.results49 J J ?_
  refine tSR<|rA J J<|rN<|tS<|tSR<|rM J J<|bndE h fun v1 e1 h=>t_call0 J (Stream_Flip_c e1) (CoL.refl _) (.cons .p0 .nil) J J<|rN<|ATodo.cond J (fun hc=>?_) (fun hc=>?_)
  · refine have h := iteT hc h; tSR<|rM J J<|rM J J<|ARun.qv (q_subw J J) J<|rM J J<|ARun.qv (q_addw J J) J<|rM J J<|rM J J<|n_buildSliceL (xs := ([w64 (p1x0 - (1 : Int)),w64 (p2x0 + (1 : Int)),p1x0,p2x0,(-1099511627776 : Int),(1099511627776 : Int)]).map I) J J J J J J<|bndE h fun v2 e2 h=>t_call0 J (Stream_Pick_c e2) (CoL.refl _) (.cons .p0 .nil) J J<|rA J J<|rN<|ATodo.ret<|?_
    obtain rfl := Option.some.inj h
    exact ImpX.here ⟨_,.cons (.tmp _ _ J) .nil,_,.cons .p0 .nil,⟨J,J⟩⟩
  · refine have h := iteFb hc h; tK<|tSR<|rM J J<|rM J J<|rM J J<|bndE h fun v3 e3 h=>t_call0 J (Stream_Range_c e3) (CoL.refl _) (.cons .p0 .nil) J J<|rA J J<|rN<|ATodo.ret<|?_
    obtain rfl := Option.some.inj h
    exact ImpX.here ⟨_,.cons (.tmp _ _ J) .nil,_,.cons .p0 .nil,⟨J,J⟩⟩

theorem Stream_Rules_c [GI : GTab] {b_0 : Bk} {p0x0 : Fleetmake_Stream} {r : (List Rule) × Fleetmake_Stream} (h : Stream_Rules p0x0 = some r) : ACall Tryz.prog 18 [.ptr b_0 0] [(b_0,.cells [lE0 p0x0.L,I p0x0.at_])] (T1 (fun d_0=>[(b_0,.cells [lE0 r.2.L,I r.2.at_]),(d_0,aE2 r.1)]) (fun d_0=>.sl 10 d_0 0 r.1.length)) := by
  unfold Stream_Rules at h
  refine ACall.lessH ?_
  refine ACall.bodyN Tryz.func18 J Tryz.ntmps18 Tryz.results18 J J ?_
  refine tSR<|rA J J<|rN<|tSR<|rA J J<|rN<|tS<|tSR<|n_buildSliceL (xs := ([([114,97] : Str),([114,98] : Str),([114,99] : Str)]).map AV.str) J J J J J J<|ARun.qv (t_len J) J<|rM J J<|rN<|ATodo.block<|ATodo.loopI (fun x : (List Int) × Int × (List Rule) × Int=>Stream_Rules_b1 x.1 x.2.1 x.2.2.1 x.2.2.2) (fun x σ'=>∃ (b8 : Bk),σ' = ⟨67,[(0,.ptr b_0 0),(3,.sl 10 b8 0 x.2.2.1.length),(7,lE1 [([114,97] : Str),([114,98] : Str),([114,99] : Str)]),(8,I ([([114,97] : Str),([114,98] : Str),([114,99] : Str)].length : Int)),(9,I x.2.2.2)],[(b_0,.cells [lE0 x.1,I x.2.1]),(b8,aE2 x.2.2.1)]⟩) h ?_ ?_
  · exact ImpX.arr (s := 3) 10 J fun b11=>ImpX.lq [1,0] ⟨b11,J⟩ J J
  · intro x z1 σ' J1 hmk h hJ1 hA1
    obtain ⟨l6, n7, l9, n10⟩ := x
    obtain ⟨b8, rfl⟩ := hmk
    replace h : Stream_Rules_b1 l6 n7 l9 n10 = some z1 := h
    unfold Stream_Rules_b1 at h
    refine tSR<|ARun.qv (q_lss J J) J<|rN<|tS<|ATodo.cond_d J (fun hc=>?_) (fun hc=>?_)
    · refine have h := iteT hc h; tK<|tS<|ATodo.block<|tSR<|bndE h fun v12 e1 h=>ARun.qv (t_index J J J e1 J J) J<|ARun.qv (q_load_rptr J J J) J<|rA J J<|rN<|tSR<|rM J J<|bndE h fun v13 e2 h=>t_call0 J (Stream_Flip_c e2) (CoL.refl _) (.cons .p0 .nil) J J<|rN<|ATodo.cut (fun σ'=>∃ (b16 : Bk) (l14 : List Int) (n15 : Int) (l17 : List Rule),Stream_Rules_j1 n10 l14 n15 l17 = some z1 ∧ σ' = ⟨67,[(0,.ptr b_0 0),(3,.sl 10 b16 0 l17.length),(7,lE1 [([114,97] : Str),([114,98] : Str),([114,99] : Str)]),(8,I ([([114,97] : Str),([114,98] : Str),([114,99] : Str)].length : Int)),(9,I n10)],[(b_0,.cells [lE0 l14,I n15]),(b16,aE2 l17)]⟩) ?_ ?_
      · refine ATodo.cond J (fun hc=>?_) (fun hc=>?_)
        · exact have h := iteT hc h; tR<|rM J J<|rM J J<|rM J J<|bndE h fun v18 e3 h=>t_call0 J (Stream_RightRule_c e3) (CoL.refl _) (.cons .p0 .nil) J J<|n_buildSliceL (xs := ([v18.1] : List Rule).map Rule.av) J J J J J J<|bndE h fun l19 e4 h=>t_append (g := Rule.av) J J J J J J J J (.list _) e4 (fun _=>.p1) J fun b20=>rA J J<|rN<|ATodo.stop<|ImpX.lq [0,0] ⟨b20,v18.2.L,v18.2.at_,l19,h,J⟩ J J
        · exact have h := iteFb hc h; tK<|ATodo.stop<|ImpX.lq [0,0] ⟨b8,v13.2.L,v13.2.at_,l9,h,J⟩ J J
      · rintro σ' ⟨b16, l14, n15, l17, h, rfl⟩
        unfold Stream_Rules_j1 at h
        refine ATodo.blk<|tR<|ARun.qv (q_addw J J) J<|rM J J<|rN<|ATodo.stop<|?_
        obtain rfl := Option.some.inj h
        exact hJ1 _ _ J<|ImpX.lq [0,0] ⟨b16,J⟩ J J
    · refine have h := iteF hc h; ATodo.exit J<|have h := outL h hA1; ?_
      unfold Stream_Rules_k6 at h
      refine tS<|tSR<|rM J J<|bndE h fun v21 e5 h=>t_call0 J (Stream_Flip_c e5) (CoL.refl _) (.cons .p0 .nil) J J<|rN<|ATodo.cut (fun σ'=>∃ (b24 : Bk) (l22 : List Int) (n23 : Int) (l25 : List Rule),Stream_Rules_j2 l22 n23 l25 = some r ∧ σ' = ⟨67,[(3,.sl 10 b24 0 l25.length)],[(b_0,.cells [lE0 l22,I n23]),(b24,aE2 l25)]⟩) ?_ ?_
      · refine ATodo.cond J (fun hc=>?_) (fun hc=>?_)
        · refine have h := iteT hc h; tSR<|rM J J<|rM J J<|n_buildSliceL (xs := ([([] : Str),([114,97] : Str),([114,122] : Str)]).map AV.str) J J J J J J<|bndE h fun v26 e6 h=>t_call0 J (Stream_Some_c e6) (CoL.refl _) (.cons .p0 .nil) J J<|bndE h fun v27 e7 h=>t_call0 J (Stream_RightRule_c e7) (CoL.refl _) (.cons .p0 .nil) J J<|n_alloc J J J J fun b28=>n_store_ptr J J J J .p0 J J<|rN<|tS<|tSR<|rM J J<|bndE h fun v29 e8 h=>t_call0 J (Stream_Next_c e8) (CoL.refl _) (.cons .p1 .nil) J J<|rN<|ATodo.block<|tSR<|ARun.qv (q_eql J J) J<|rA J J<|rN<|ATodo.cut (fun σ'=>∃ (l30 : List Int) (n31 : Int) (q32 : Str) (n33 : Int) (n34 : Int) (n35 : Int) (n36 : Int) (n37 : Int) (n38 : Int) (n39 : Int),Stream_Rules_j3 l9 v27 l30 n31 q32 n33 n34 n35 n36 n37 n38 n39 = some r ∧ σ' = ⟨67,[(3,.sl 10 b8 0 l9.length),(6,.ptr b28 0)],[(b_0,.cells [lE0 l30,I n31]),(b8,aE2 l9),(b28,.cells [.str v27.1.Key,.str q32,I n33,I n34,.bool v27.1.Above,I n35,I n36,I n37,I n38,I n39])]⟩) ?_ ?_
          · refine ATodo.cond_d J (fun hc=>?_) (fun hc=>?_)
            · exact have h := iteT hc h; tR<|rM J J<|bndE h fun v40 e9 h=>t_call0 J (Stream_Odd_c e9) (CoL.refl _) (.cons .p0 .nil) J J<|rM J J<|bndE h fun v41 e10 h=>t_call0 J (Stream_Odd_c e10) (CoL.refl _) (.cons .p0 .nil) J J<|rF J J J<|n_store_ptr J J J J .p1 J J<|rF J J J<|n_store_ptr J J J J .p1 J J<|rN<|ATodo.stop<|ImpX.lq [0,1,0] ⟨v41.2.L,v41.2.at_,v27.1.Metric,v40.1,v27.1.Long,v27.1.On,v27.1.Off,v27.1.Hold,v27.1.Rest,v41.1,h,J⟩ J J
            · refine have h := iteF hc h; tSR<|ARun.qv (q_eql J J) J<|rA J J<|rN<|ATodo.cut (fun σ'=>∃ (l42 : List Int) (n43 : Int) (q44 : Str) (n45 : Int) (n46 : Int) (n47 : Int) (n48 : Int) (n49 : Int),Stream_Rules_j4 l9 v27 l42 n43 q44 n45 n46 n47 n48 n49 = some r ∧ σ' = ⟨67,[(3,.sl 10 b8 0 l9.length),(6,.ptr b28 0)],[(b_0,.cells [lE0 l42,I n43]),(b8,aE2 l9),(b28,.cells [.str v27.1.Key,.str q44,I v27.1.Agg,I n45,.bool v27.1.Above,I n46,I n47,I n48,I n49,I v27.1.Empty])]⟩) ?_ ?_
              · refine ATodo.cond_d J (fun hc=>?_) (fun hc=>?_)
                · exact have h := iteT hc h; tR<|rM J J<|bndE h fun v50 e11 h=>t_call0 J (Stream_Odd_c e11) (CoL.refl _) (.cons .p0 .nil) J J<|rM J J<|bndE h fun v51 e12 h=>t_call0 J (Stream_Odd_c e12) (CoL.refl _) (.cons .p0 .nil) J J<|rM J J<|bndE h fun v52 e13 h=>t_call0 J (Stream_Odd_c e13) (CoL.refl _) (.cons .p0 .nil) J J<|rF J J J<|n_store_ptr J J J J .p1 J J<|rF J J J<|n_store_ptr J J J J .p1 J J<|rF J J J<|n_store_ptr J J J J .p1 J J<|rN<|ATodo.stop<|ImpX.lq [0,1,0] ⟨v52.2.L,v52.2.at_,v27.1.Metric,v50.1,v27.1.On,v27.1.Off,v51.1,v52.1,h,J⟩ J J
                · refine have h := iteF hc h; tSR<|ARun.qv (q_eql J J) J<|rA J J<|rN<|ATodo.cut (fun σ'=>∃ (l53 : List Int) (n54 : Int) (q55 : Str) (n56 : Int) (n57 : Int),Stream_Rules_j5 l9 v27 l53 n54 q55 n56 n57 = some r ∧ σ' = ⟨67,[(3,.sl 10 b8 0 l9.length),(6,.ptr b28 0)],[(b_0,.cells [lE0 l53,I n54]),(b8,aE2 l9),(b28,.cells [.str v27.1.Key,.str q55,I v27.1.Agg,I v27.1.Long,.bool v27.1.Above,I n56,I n57,I v27.1.Hold,I v27.1.Rest,I v27.1.Empty])]⟩) ?_ ?_
                  · refine ATodo.cond_d J (fun hc=>?_) (fun hc=>?_)
                    · exact have h := iteT hc h; tR<|rM J J<|bndE h fun v58 e14 h=>t_call0 J (Stream_Odd_c e14) (CoL.refl _) (.cons .p0 .nil) J J<|rM J J<|bndE h fun v59 e15 h=>t_call0 J (Stream_Odd_c e15) (CoL.refl _) (.cons .p0 .nil) J J<|rF J J J<|n_store_ptr J J J J .p1 J J<|rF J J J<|n_store_ptr J J J J .p1 J J<|rN<|ATodo.stop<|ImpX.lq [0,1,0] ⟨v59.2.L,v59.2.at_,v27.1.Metric,v58.1,v59.1,h,J⟩ J J
                    · exact have h := iteF hc h; tR<|rM J J<|n_buildSliceL (xs := ([([] : Str),([65] : Str),([116] : Str)]).map AV.str) J J J J J J<|bndE h fun v60 e16 h=>t_call0 J (Stream_Some_c e16) (CoL.refl _) (.cons .p0 .nil) J J<|rF J J J<|n_store_ptr J J J J .p1 J J<|rN<|ATodo.stop<|ImpX.lq [0,1,0] ⟨v60.2.L,v60.2.at_,v60.1,v27.1.On,v27.1.Off,h,J⟩ J J
                  · rintro σ' ⟨l53, n54, q55, n56, n57, h, rfl⟩
                    unfold Stream_Rules_j5 at h
                    exact ATodo.stop<|ImpX.lq [0,0,0] ⟨l53,n54,q55,v27.1.Long,n56,n57,v27.1.Hold,v27.1.Rest,h,J⟩ J J
              · rintro σ' ⟨l42, n43, q44, n45, n46, n47, n48, n49, h, rfl⟩
                unfold Stream_Rules_j4 at h
                exact ATodo.stop<|ImpX.lq [0,0,0] ⟨l42,n43,q44,v27.1.Agg,n45,n46,n47,n48,n49,v27.1.Empty,h,J⟩ J J
          · rintro σ' ⟨l30, n31, q32, n33, n34, n35, n36, n37, n38, n39, h, rfl⟩
            unfold Stream_Rules_j3 at h
            exact ATodo.blk<|tR<|rM J J<|ARun.qv (q_load_ptr_all J J .p2 J) J<|n_buildSliceL (xs := ([(⟨v27.1.Key,q32,n33,n34,v27.1.Above,n35,n36,n37,n38,n39⟩ : Rule)]).map Rule.av) J J J J J J<|bndE h fun l61 e17 h=>t_append (g := Rule.av) J J J J J J J J (.list _) e17 (fun _=>.p1) J fun b62=>rA J J<|rN<|ATodo.stop<|ImpX.lq [0,0] ⟨b62,l30,n31,l61,h,J⟩ J J
        · exact have h := iteFb hc h; tK<|ATodo.stop<|ImpX.lq [0,0] ⟨b8,v21.2.L,v21.2.at_,l9,h,J⟩ J J
      · rintro σ' ⟨b24, l22, n23, l25, h, rfl⟩
        unfold Stream_Rules_j2 at h
        refine tSR<|rM J J<|rA J J<|rN<|ATodo.ret<|?_
        obtain rfl := Option.some.inj h
        exact ImpX.here ⟨_,.cons (.tmp _ _ J) .nil,_,.cons .p0 (.cons .p0 .nil),⟨b24,J,J⟩⟩

theorem base_Key_c [GI : GTab] {p0x0 : Str} {r : Bool} (h : base_Key p0x0 = some r) : Pu Tryz.prog 71 [.str p0x0] (.bool r) := by
  unfold base_Key at h
  refine ACall.bodyN Tryz.func71 J Tryz.ntmps71 Tryz.results71 J J ?_
  refine tSR<|rA J J<|rN<|tS<|tS<|ATodo.cut (fun σ'=>∃ (c1 : Bool),base_Key_j1 p0x0 c1 = some r ∧ σ' = ⟨54,[(0,.str p0x0),(21,.bool c1)],[]⟩) ?_ ?_
  · refine tR<|rM J J<|ARun.qv (q_seq J J) J<|rM J J<|ARun.guard_df J J J (fun hc=>?_) (fun hc=>?_)
    · refine have h := iteF hc h; rM J J<|rY J J J<|ARun.qv (q_len_str J) J<|rY J J J<|ARun.qv (q_gtr J J) J<|rE J J J<|rM J J<|ARun.guard_df J J J (fun hc=>?_) (fun hc=>?_)
      · refine have h := iteF hc h; rM J J<|rY J J J<|bndE h fun c2 e1 h=>ARun.qv (t_index_str J J e1) J<|rY J J J<|ARun.qv (q_lss J J) J<|rE J J J<|rM J J<|ARun.guard_df J J J (fun hc=>?_) (fun hc=>?_)
        · exact have h := iteF hc h; rM J J<|rY J J J<|bndE h fun c3 e2 h=>ARun.qv (t_index_str J J e2) J<|rY J J J<|ARun.qv (q_gtr J J) J<|rE J J J<|rN<|ATodo.stop<|ImpX.lq [] ⟨decide ((122 : Int) < (c3.toNat : Int)),h,J⟩ J J
        · exact have h := iteT hc h; rG J J J J<|rG J J J J<|rT J J J<|rN<|ATodo.stop<|ImpX.lq [] ⟨true,h,J⟩ J J
      · exact have h := iteT hc h; rG J J J J<|rG J J J J<|rT J J J<|rM J J<|rG J J J J<|rG J J J J<|rG J J J J<|rT J J J<|rN<|ATodo.stop<|ImpX.lq [] ⟨true,h,J⟩ J J
    · exact have h := iteT hc h; rG J J J J<|rG J J J J<|rT J J J<|rM J J<|rG J J J J<|rG J J J J<|rG J J J J<|rT J J J<|rM J J<|rG J J J J<|rG J J J J<|rG J J J J<|rT J J J<|rN<|ATodo.stop<|ImpX.lq [] ⟨true,h,J⟩ J J
  · rintro σ' ⟨c1, h, rfl⟩
    unfold base_Key_j1 at h
    refine ATodo.cond J (fun hc=>?_) (fun hc=>?_)
    · refine have h := iteT hc h; tSR<|rA J J<|rN<|ATodo.ret<|?_
      obtain rfl := Option.some.inj h
      exact ImpX.here ⟨_,.cons (.tmp _ _ J) .nil,J⟩
    · refine have h := iteFb hc h; tK<|tS<|tSR<|rM J J<|ARun.qv (q_len_str J) J<|rM J J<|rN<|ATodo.block<|ATodo.loopI (fun x : Int=>base_Key_b1 p0x0 x) (fun x σ'=>σ' = ⟨54,[(0,.str p0x0),(23,I (p0x0.length : Int)),(24,I x)],[]⟩) h ?_ ?_
      · exact ImpX.lq [] J J J
      · intro n5 z1 σ' J1 hmk h hJ1 hA1
        obtain rfl := hmk
        replace h : base_Key_b1 p0x0 n5 = some z1 := h
        unfold base_Key_b1 at h
        refine tSR<|ARun.qv (q_lss J J) J<|rN<|tS<|ATodo.cond_d J (fun hc=>?_) (fun hc=>?_)
        · refine have h := iteT hc h; tK<|tS<|ATodo.block<|tSR<|rM J J<|rA J J<|rN<|tSR<|rM J J<|rM J J<|bndE h fun c6 e3 h=>ARun.qv (t_index_str J J e3) J<|rA J J<|rN<|tS<|ATodo.cut (fun σ'=>∃ (c7 : Bool),base_Key_j2 n5 c7 = some z1 ∧ σ' = ⟨54,[(0,.str p0x0),(23,I (p0x0.length : Int)),(24,I n5),(52,.bool c7)],[]⟩) ?_ ?_
          · refine tR<|rM J J<|ARun.qv (q_geq J J) J<|rM J J<|ARun.guard_dt J J J (fun hc=>?_) (fun hc=>?_)
            · rw [if_pos hc] at h
              refine rM J J<|rY J J J<|ARun.qv (q_leq J J) J<|rT J J J<|rM J J<|ARun.guard_df J J J (fun hc=>?_) (fun hc=>?_)
              · rw [if_neg hc] at h
                refine rM J J<|rY J J J<|ARun.qv (q_geq J J) J<|rY J J J<|rM J J<|ARun.guard_dt J J J (fun hc=>?_) (fun hc=>?_)
                · rw [if_pos hc] at h
                  refine rM J J<|rY J J J<|ARun.qv (q_leq J J) J<|rY J J J<|rT J J J<|rE J J J<|rM J J<|ARun.guard_df J J J (fun hc=>?_) (fun hc=>?_)
                  · rw [if_neg hc] at h
                    refine rM J J<|rY J J J<|ARun.qv (q_eql J J) J<|rE J J J<|rM J J<|ARun.guard_df J J J (fun hc=>?_) (fun hc=>?_)
                    · rw [if_neg hc] at h
                      exact rM J J<|rY J J J<|ARun.qv (q_eql J J) J<|rE J J J<|ARun.qv (q_not_d J) J<|rN<|ATodo.stop<|ImpX.lq [] ⟨decide (¬ ((c6.toNat : Int) = (95 : Int))),h,J⟩ J J
                    · rw [if_pos hc] at h
                      exact rG J J J J<|rT J J J<|ARun.qv (q_not J) J<|rN<|ATodo.stop<|ImpX.lq [] ⟨!true,h,J⟩ J J
                  · rw [if_pos hc] at h
                    exact rG J J J J<|rT J J J<|rM J J<|rG J J J J<|rG J J J J<|rT J J J<|ARun.qv (q_not J) J<|rN<|ATodo.stop<|ImpX.lq [] ⟨!true,h,J⟩ J J
                · rw [if_neg hc] at h
                  refine rG J J J J<|rY J J J<|rE J J J<|rE J J J<|rM J J<|rY J J J<|rM J J<|rY J J J<|ARun.qv (q_eql J J) J<|rE J J J<|rM J J<|ARun.guard_df J J J (fun hc=>?_) (fun hc=>?_)
                  · rw [if_neg hc] at h
                    exact rM J J<|rY J J J<|ARun.qv (q_eql J J) J<|rE J J J<|ARun.qv (q_not_d J) J<|rN<|ATodo.stop<|ImpX.lq [] ⟨decide (¬ ((c6.toNat : Int) = (95 : Int))),h,J⟩ J J
                  · rw [if_pos hc] at h
                    exact rG J J J J<|rT J J J<|ARun.qv (q_not J) J<|rN<|ATodo.stop<|ImpX.lq [] ⟨!true,h,J⟩ J J
              · rw [if_pos hc] at h
                exact rG J J J J<|rG J J J J<|ARun.guard_und J J J<|ARun.guard_und J J J<|rG J J J J<|rT J J J<|rM J J<|rG J J J J<|rG J J J J<|rT J J J<|rM J J<|rG J J J J<|rG J J J J<|rT J J J<|ARun.qv (q_not J) J<|rN<|ATodo.stop<|ImpX.lq [] ⟨!true,h,J⟩ J J
            · rw [if_neg hc] at h
              refine rG J J J J<|rE J J J<|rM J J<|rY J J J<|rM J J<|rY J J J<|ARun.qv (q_geq J J) J<|rY J J J<|rM J J<|ARun.guard_dt J J J (fun hc=>?_) (fun hc=>?_)
              · rw [if_pos hc] at h
                refine rM J J<|rY J J J<|ARun.qv (q_leq J J) J<|rY J J J<|rT J J J<|rE J J J<|rM J J<|ARun.guard_df J J J (fun hc=>?_) (fun hc=>?_)
                · rw [if_neg hc] at h
                  refine rM J J<|rY J J J<|ARun.qv (q_eql J J) J<|rE J J J<|rM J J<|ARun.guard_df J J J (fun hc=>?_) (fun hc=>?_)
                  · rw [if_neg hc] at h
                    exact rM J J<|rY J J J<|ARun.qv (q_eql J J) J<|rE J J J<|ARun.qv (q_not_d J) J<|rN<|ATodo.stop<|ImpX.lq [] ⟨decide (¬ ((c6.toNat : Int) = (95 : Int))),h,J⟩ J J
                  · rw [if_pos hc] at h
                    exact rG J J J J<|rT J J J<|ARun.qv (q_not J) J<|rN<|ATodo.stop<|ImpX.lq [] ⟨!true,h,J⟩ J J
                · rw [if_pos hc] at h
                  exact rG J J J J<|rT J J J<|rM J J<|rG J J J J<|rG J J J J<|rT J J J<|ARun.qv (q_not J) J<|rN<|ATodo.stop<|ImpX.lq [] ⟨!true,h,J⟩ J J
              · rw [if_neg hc] at h
                refine rG J J J J<|rY J J J<|rE J J J<|rE J J J<|rM J J<|rY J J J<|rM J J<|rY J J J<|ARun.qv (q_eql J J) J<|rE J J J<|rM J J<|ARun.guard_df J J J (fun hc=>?_) (fun hc=>?_)
                · rw [if_neg hc] at h
                  exact rM J J<|rY J J J<|ARun.qv (q_eql J J) J<|rE J J J<|ARun.qv (q_not_d J) J<|rN<|ATodo.stop<|ImpX.lq [] ⟨decide (¬ ((c6.toNat : Int) = (95 : Int))),h,J⟩ J J
                · rw [if_pos hc] at h
                  exact rG J J J J<|rT J J J<|ARun.qv (q_not J) J<|rN<|ATodo.stop<|ImpX.lq [] ⟨!true,h,J⟩ J J
          · rintro σ' ⟨c7, h, rfl⟩
            unfold base_Key_j2 at h
            refine ATodo.cond J (fun hc=>?_) (fun hc=>?_)
            · refine have h := iteT hc h; tSR<|rA J J<|rN<|ATodo.ret<|have h := outL h hA1; ?_
              obtain rfl := Option.some.inj h
              exact ImpX.here ⟨_,.cons (.tmp _ _ J) .nil,J⟩
            · refine have h := iteFb hc h; tK<|ATodo.blk<|tR<|ARun.qv (q_addw J J) J<|rM J J<|rN<|ATodo.stop<|?_
              obtain rfl := Option.some.inj h
              exact hJ1 _ _ J<|ImpX.lq [] J J J
        · refine have h := iteF hc h; ATodo.exit J<|have h := outL h hA1; tSR<|rA J J<|rN<|ATodo.ret<|?_
          obtain rfl := Option.some.inj h
          exact ImpX.here ⟨_,.cons (.tmp _ _ J) .nil,J⟩

theorem base_Out_c [GI : GTab] {p0x0 : Int} {p1x0 : Int} {p2x0 : Int} {r : Bool} (h : base_Out p0x0 p1x0 p2x0 = r) : Pu Tryz.prog 54 [I p0x0,I p1x0,I p2x0] (.bool r) := by
  unfold base_Out at h
  refine ACall.bodyN Tryz.func54 J Tryz.ntmps54 Tryz.results54 J J ?_
  refine tSR<|rA J J<|rN<|tS<|ATodo.cut (fun σ'=>∃ (c1 : Bool),base_Out_j1 c1 = r ∧ σ' = ⟨15,[(6,.bool c1)],[]⟩) ?_ ?_
  · refine tR<|rM J J<|rM J J<|ARun.qv (q_lss J J) J<|rM J J<|ARun.guard_df J J J (fun hc=>?_) (fun hc=>?_)
    · rw [orFd hc] at h
      exact rM J J<|rY J J J<|rM J J<|rY J J J<|ARun.qv (q_gtr J J) J<|rE J J J<|rA J J<|rN<|ATodo.stop<|ImpX.lq [] ⟨decide (p2x0 < p0x0),h,J⟩ J J
    · rw [orTd hc] at h
      exact rG J J J J<|rG J J J J<|rT J J J<|rA J J<|rN<|ATodo.stop<|ImpX.lq [] ⟨true,h,J⟩ J J
  · rintro σ' ⟨c1, h, rfl⟩
    unfold base_Out_j1 at h
    refine ATodo.ret<|?_
    obtain rfl := h
    exact ImpX.here ⟨_,.cons (.tmp _ _ J) .nil,J⟩

theorem rule_CheckRules_1x_c [GI : GTab] {p0x0 : Int} {r : Bool} (h : rule_CheckRules_1x p0x0 = r) : Pu Tryz.prog 161 [I p0x0] (.bool r) := by
  unfold rule_CheckRules_1x at h
  refine ACall.bodyN Tryz.func161 J Tryz.ntmps161 Tryz.results161 J J ?_
  refine tSR<|rA J J<|rN<|tSR<|rM J J<|r_callp J (base_Out_c J) (CoL.refl _) J<|ARun.qv (q_not J) J<|rA J J<|rN<|ATodo.ret<|?_
  obtain rfl := h
  exact ImpX.here ⟨_,.cons (.tmp _ _ J) .nil,J⟩

theorem rule_CheckRules_c [GI : GTab] {p0x0 : List Rule} {r : Int} (h : rule_CheckRules p0x0 = some r) : Pu Tryz.prog 84 [lE2 p0x0] (I r) := by
  unfold rule_CheckRules at h
  refine ACall.bodyN Tryz.func84 J Tryz.ntmps84 Tryz.results84 J J ?_
  refine tSR<|rA J J<|rN<|tS<|tSR<|rM J J<|ARun.qv (t_len J) J<|ARun.qv (q_gtr J J) J<|rN<|ATodo.cond_d J (fun hc=>?_) (fun hc=>?_)
  · refine have h := iteT hc h; tSR<|rA J J<|rN<|ATodo.ret<|?_
    obtain rfl := Option.some.inj h
    exact ImpX.here ⟨_,.cons (.tmp _ _ J) .nil,J⟩
  · refine have h := iteF hc h; tK<|tSR<|rA J J<|rN<|tS<|tSR<|rM J J<|ARun.qv (t_len J) J<|rM J J<|rN<|ATodo.block<|ATodo.loopI (fun x : Int=>rule_CheckRules_b1 p0x0 x) (fun x σ'=>σ' = ⟨89,[(0,lE2 p0x0),(3,.func (.func 161) []),(9,lE2 p0x0),(10,I (p0x0.length : Int)),(11,I x)],[]⟩) h ?_ ?_
    · exact ImpX.lq [] J J J
    · intro n2 z1 σ' J1 hmk h hJ1 hA1
      obtain rfl := hmk
      replace h : rule_CheckRules_b1 p0x0 n2 = some z1 := h
      unfold rule_CheckRules_b1 at h
      refine tSR<|ARun.qv (q_lss J J) J<|rN<|tS<|ATodo.cond_d J (fun hc=>?_) (fun hc=>?_)
      · refine have h := iteT hc h; tK<|tS<|ATodo.block<|tSR<|rM J J<|bndE h fun v3 e1 h=>ARun.qv (t_index J J J e1 J J) J<|ARun.qv (q_load_rptr_agg J J J) J<|n_alloc J J J J fun b4=>rA J J<|n_store_ptr J J J J .p0 J J<|rN<|ATodo.block<|tSR<|rF J J J<|rL J J .p0 J J<|bndE h fun v5 e2 h=>r_callp J (base_Key_c e2) (CoL.refl _) J<|ARun.qv (q_not J) J<|rA J J<|rN<|ATodo.cond J (fun hc=>?_) (fun hc=>?_)
        · refine have h := iteT hc h; tSR<|rA J J<|rN<|ATodo.ret<|have h := outL h hA1; ?_
          obtain rfl := Option.some.inj h
          exact ImpX.here ⟨_,.cons (.tmp _ _ J) .nil,J⟩
        · refine have h := iteFb hc h; tS<|ATodo.cut (fun σ'=>∃ (c6 : Bool),rule_CheckRules_j1 n2 v3 c6 = some z1 ∧ σ' = ⟨89,[(0,lE2 p0x0),(3,.func (.func 161) []),(5,.ptr b4 0),(9,lE2 p0x0),(10,I (p0x0.length : Int)),(11,I n2),(21,.bool c6)],[(b4,.cells (cE0 v3))]⟩) ?_ ?_
          · refine ATodo.regionM (id := 9) (A := [0,1,3,7,15,7,7,71,231,487,999,2047,4095,8191]) 14 mixed J (by kernel_rfl) (by kernel_rfl)<|AM.qv (q_move J) J<|AM.qv (q_gtr J J) J<|AM.qv (q_move J) J<|AM.guard_dt J J J (fun hc=>?_) (fun hc=>?_)
            · exact have h := iteT hc h; AM.qv (n_field_ptr J J) J<|AM.guard_yes J J J<|AM.qv (q_load_ptr J J .p0 J) J<|AM.guard_yes J J J<|AM.qv (q_move J) J<|AM.guard_yes J J J<|AM.qv (q_move J) J<|AM.guard_yes J J J<|AM.qv (q_subw J J) J<|AM.guard_yes J J J<|bndE h fun v7 e3 h=>AM.qv (t_index J J J e3 J J) J<|AM.guard_yes J J J<|AM.qv (n_field_rptr J J) J<|AM.guard_yes J J J<|AM.qv (q_load_rptr J J J) J<|AM.guard_yes J J J<|AM.qv (t_sleq J J) J<|AM.qv (q_pick_t J J) J<|AM.qv (q_assign J) J<|AM.nil<|rN<|ATodo.stop<|ImpX.lq [0] ⟨Op.bytesLess v3.Key v7.Key || v3.Key == v7.Key,h,J⟩ J J
            · exact have h := iteF hc h; AM.guard_no J J J J<|AM.guard_no J J J J<|AM.guard_no J J J J<|AM.guard_no J J J J<|AM.guard_no J J J J<|AM.guard_no J J J J<|AM.guard_no J J J J<|AM.guard_no J J J J<|AM.qv (q_pick_f J J) J<|AM.qv (q_assign J) J<|AM.nil<|rN<|ATodo.stop<|ImpX.lq [0] ⟨false,h,J⟩ J J
          · rintro σ' ⟨c6, h, rfl⟩
            unfold rule_CheckRules_j1 at h
            refine ATodo.cond J (fun hc=>?_) (fun hc=>?_)
            · refine have h := iteT hc h; tSR<|rA J J<|rN<|ATodo.ret<|have h := outL h hA1; ?_
              obtain rfl := Option.some.inj h
              exact ImpX.here ⟨_,.cons (.tmp _ _ J) .nil,J⟩
            · refine have h := iteFb hc h; tSR<|rF J J J<|rL J J .p0 J J<|bndE h fun v8 e4 h=>r_callp J (base_Key_c e4) (CoL.refl _) J<|ARun.qv (q_not J) J<|rA J J<|rN<|ATodo.cond J (fun hc=>?_) (fun hc=>?_)
              · refine have h := iteT hc h; tSR<|rA J J<|rN<|ATodo.ret<|have h := outL h hA1; ?_
                obtain rfl := Option.some.inj h
                exact ImpX.here ⟨_,.cons (.tmp _ _ J) .nil,J⟩
              · refine have h := iteFb hc h; tSR<|rF J J J<|rL J J .p0 J J<|r_callp J (base_Out_c J) (CoL.refl _) J<|rA J J<|rN<|ATodo.cond J (fun hc=>?_) (fun hc=>?_)
                · refine have h := iteT hc h; tSR<|rA J J<|rN<|ATodo.ret<|have h := outL h hA1; ?_
                  obtain rfl := Option.some.inj h
                  exact ImpX.here ⟨_,.cons (.tmp _ _ J) .nil,J⟩
                · refine have h := iteFb hc h; tS<|tSR<|rF J J J<|rL J J .p0 J J<|r_callp J (base_Out_c J) (CoL.refl _) J<|rA J J<|rN<|ATodo.cut (fun σ'=>∃ (c9 : Bool),rule_CheckRules_j2 n2 v3 c9 = some z1 ∧ σ' = ⟨89,[(0,lE2 p0x0),(3,.func (.func 161) []),(5,.ptr b4 0),(9,lE2 p0x0),(10,I (p0x0.length : Int)),(11,I n2),(44,.bool c9)],[(b4,.cells (cE0 v3))]⟩) ?_ ?_
                  · refine ATodo.cond J (fun hc=>?_) (fun hc=>?_)
                    · exact have h := iteT hc h; tK<|ATodo.stop<|ImpX.lq [0] ⟨(base_Out v3.Long (1 : Int) (2592000000 : Int)),h,J⟩ J J
                    · refine have h := iteFb hc h; tSR<|rM J J<|rF J J J<|rL J J .p0 J J<|r_callvp J J (rule_CheckRules_1x_c J) (CoL.refl _) J<|ARun.qv (q_not J) J<|rA J J<|rN<|ATodo.cut (fun σ'=>∃ (c10 : Bool),rule_CheckRules_j3 n2 v3 c10 = some z1 ∧ σ' = ⟨89,[(0,lE2 p0x0),(3,.func (.func 161) []),(5,.ptr b4 0),(9,lE2 p0x0),(10,I (p0x0.length : Int)),(11,I n2),(44,.bool c10)],[(b4,.cells (cE0 v3))]⟩) ?_ ?_
                      · refine ATodo.cond J (fun hc=>?_) (fun hc=>?_)
                        · exact have h := iteT hc h; tK<|ATodo.stop<|ImpX.lq [0] ⟨!(rule_CheckRules_1x v3.On),h,J⟩ J J
                        · refine have h := iteFb hc h; tSR<|rM J J<|rF J J J<|rL J J .p0 J J<|r_callvp J J (rule_CheckRules_1x_c J) (CoL.refl _) J<|ARun.qv (q_not J) J<|rA J J<|rN<|ATodo.cut (fun σ'=>∃ (c11 : Bool),rule_CheckRules_j4 n2 v3 c11 = some z1 ∧ σ' = ⟨89,[(0,lE2 p0x0),(3,.func (.func 161) []),(5,.ptr b4 0),(9,lE2 p0x0),(10,I (p0x0.length : Int)),(11,I n2),(44,.bool c11)],[(b4,.cells (cE0 v3))]⟩) ?_ ?_
                          · refine ATodo.cond J (fun hc=>?_) (fun hc=>?_)
                            · exact have h := iteT hc h; tK<|ATodo.stop<|ImpX.lq [0] ⟨!(rule_CheckRules_1x v3.Off),h,J⟩ J J
                            · refine have h := iteFb hc h; tS<|ATodo.cut (fun σ'=>∃ (c12 : Bool),rule_CheckRules_j5 n2 v3 c12 = some z1 ∧ σ' = ⟨89,[(0,lE2 p0x0),(3,.func (.func 161) []),(5,.ptr b4 0),(9,lE2 p0x0),(10,I (p0x0.length : Int)),(11,I n2),(44,.bool c12)],[(b4,.cells (cE0 v3))]⟩) ?_ ?_
                              · refine tR<|rF J J J<|rL J J .p0 J J<|rM J J<|ARun.guard J J J (fun hc=>?_) (fun hc=>?_)
                                · rw [andTb hc] at h
                                  exact rF J J J<|rY J J J<|rL J J .p0 J J<|rY J J J<|rF J J J<|rY J J J<|rL J J .p0 J J<|rY J J J<|ARun.qv (q_gtr J J) J<|rT J J J<|rA J J<|rN<|ATodo.stop<|ImpX.lq [0] ⟨decide (v3.On < v3.Off),h,J⟩ J J
                                · rw [andFb hc] at h
                                  exact rG J J J J<|rG J J J J<|rG J J J J<|rG J J J J<|rE J J J<|rA J J<|rN<|ATodo.stop<|ImpX.lq [0] ⟨false,h,J⟩ J J
                              · rintro σ' ⟨c12, h, rfl⟩
                                unfold rule_CheckRules_j5 at h
                                refine ATodo.cut (fun σ'=>∃ (c13 : Bool),rule_CheckRules_j6 n2 v3 c13 = some z1 ∧ σ' = ⟨89,[(0,lE2 p0x0),(3,.func (.func 161) []),(5,.ptr b4 0),(9,lE2 p0x0),(10,I (p0x0.length : Int)),(11,I n2),(44,.bool c13)],[(b4,.cells (cE0 v3))]⟩) ?_ ?_
                                · refine ATodo.cond J (fun hc=>?_) (fun hc=>?_)
                                  · exact have h := iteT hc h; tK<|ATodo.stop<|ImpX.lq [0] ⟨c12,h,J⟩ J J
                                  · refine have h := iteFb hc h; ATodo.cut (fun σ'=>∃ (c14 : Bool),rule_CheckRules_j7 n2 v3 c14 = some z1 ∧ σ' = ⟨89,[(0,lE2 p0x0),(3,.func (.func 161) []),(5,.ptr b4 0),(9,lE2 p0x0),(10,I (p0x0.length : Int)),(11,I n2),(44,.bool c14)],[(b4,.cells (cE0 v3))]⟩) ?_ ?_
                                    · refine tR<|rF J J J<|rL J J .p0 J J<|ARun.qv (q_not J) J<|rM J J<|ARun.guard J J J (fun hc=>?_) (fun hc=>?_)
                                      · rw [andTb hc] at h
                                        exact rF J J J<|rY J J J<|rL J J .p0 J J<|rY J J J<|rF J J J<|rY J J J<|rL J J .p0 J J<|rY J J J<|ARun.qv (q_lss J J) J<|rT J J J<|rA J J<|rN<|ATodo.stop<|ImpX.lq [0] ⟨decide (v3.Off < v3.On),h,J⟩ J J
                                      · rw [andFb hc] at h
                                        exact rG J J J J<|rG J J J J<|rG J J J J<|rG J J J J<|rE J J J<|rA J J<|rN<|ATodo.stop<|ImpX.lq [0] ⟨false,h,J⟩ J J
                                    · rintro σ' ⟨c14, h, rfl⟩
                                      unfold rule_CheckRules_j7 at h
                                      exact ATodo.stop<|ImpX.lq [0] ⟨c14,h,J⟩ J J
                                · rintro σ' ⟨c13, h, rfl⟩
                                  unfold rule_CheckRules_j6 at h
                                  exact ATodo.stop<|ImpX.lq [0] ⟨c13,h,J⟩ J J
                          · rintro σ' ⟨c11, h, rfl⟩
                            unfold rule_CheckRules_j4 at h
                            exact ATodo.stop<|ImpX.lq [0] ⟨c11,h,J⟩ J J
                      · rintro σ' ⟨c10, h, rfl⟩
                        unfold rule_CheckRules_j3 at h
                        exact ATodo.stop<|ImpX.lq [0] ⟨c10,h,J⟩ J J
                  · rintro σ' ⟨c9, h, rfl⟩
                    unfold rule_CheckRules_j2 at h
                    refine ATodo.cond J (fun hc=>?_) (fun hc=>?_)
                    · refine have h := iteT hc h; tSR<|rA J J<|rN<|ATodo.ret<|have h := outL h hA1; ?_
                      obtain rfl := Option.some.inj h
                      exact ImpX.here ⟨_,.cons (.tmp _ _ J) .nil,J⟩
                    · refine have h := iteFb hc h; tS<|tSR<|rF J J J<|rL J J .p0 J J<|r_callp J (base_Out_c J) (CoL.refl _) J<|rA J J<|rN<|ATodo.cut (fun σ'=>∃ (c15 : Bool),rule_CheckRules_j8 n2 v3 c15 = some z1 ∧ σ' = ⟨89,[(0,lE2 p0x0),(3,.func (.func 161) []),(5,.ptr b4 0),(9,lE2 p0x0),(10,I (p0x0.length : Int)),(11,I n2),(77,.bool c15)],[(b4,.cells (cE0 v3))]⟩) ?_ ?_
                      · refine ATodo.cond J (fun hc=>?_) (fun hc=>?_)
                        · exact have h := iteT hc h; tK<|ATodo.stop<|ImpX.lq [0] ⟨(base_Out v3.Hold (0 : Int) (2592000000 : Int)),h,J⟩ J J
                        · exact have h := iteFb hc h; tR<|rF J J J<|rL J J .p0 J J<|r_callp J (base_Out_c J) (CoL.refl _) J<|rA J J<|rN<|ATodo.stop<|ImpX.lq [0] ⟨(base_Out v3.Rest (0 : Int) (2592000000 : Int)),h,J⟩ J J
                      · rintro σ' ⟨c15, h, rfl⟩
                        unfold rule_CheckRules_j8 at h
                        refine ATodo.cond J (fun hc=>?_) (fun hc=>?_)
                        · refine have h := iteT hc h; tSR<|rA J J<|rN<|ATodo.ret<|have h := outL h hA1; ?_
                          obtain rfl := Option.some.inj h
                          exact ImpX.here ⟨_,.cons (.tmp _ _ J) .nil,J⟩
                        · refine have h := iteFb hc h; tSR<|rF J J J<|rL J J .p0 J J<|r_callp J (base_Out_c J) (CoL.refl _) J<|rA J J<|rN<|ATodo.cond J (fun hc=>?_) (fun hc=>?_)
                          · refine have h := iteT hc h; tSR<|rA J J<|rN<|ATodo.ret<|have h := outL h hA1; ?_
                            obtain rfl := Option.some.inj h
                            exact ImpX.here ⟨_,.cons (.tmp _ _ J) .nil,J⟩
                          · refine have h := iteFb hc h; tK<|ATodo.blk<|ATodo.blk<|tR<|ARun.qv (q_addw J J) J<|rM J J<|rN<|ATodo.stop<|?_
                            obtain rfl := Option.some.inj h
                            exact hJ1 _ _ J<|ImpX.lq [] J J J
      · refine have h := iteF hc h; ATodo.exit J<|have h := outL h hA1; tSR<|rA J J<|rN<|ATodo.ret<|?_
        obtain rfl := Option.some.inj h
        exact ImpX.here ⟨_,.cons (.tmp _ _ J) .nil,J⟩

theorem rule_aggregates_c [GI : GTab] {r : (List Str)} (h : rule_aggregates = r) : Pu Tryz.prog 114 [] (lE1 r) := by
  unfold rule_aggregates at h
  refine ACall.bodyN Tryz.func114 J Tryz.ntmps114 Tryz.results114 J J ?_
  refine tSR<|rA J J<|rN<|tSR<|n_buildSliceL (xs := ([([108,97,115,116] : Str),([109,105,110] : Str),([109,97,120] : Str),([109,101,97,110] : Str),([99,111,117,110,116] : Str),([99,104,97,110,103,101] : Str)]).map AV.str) J J J J J J<|rA J J<|rN<|ATodo.ret<|?_
  obtain rfl := h
  exact ImpX.here ⟨_,.cons (.tmp _ _ J) .nil,J⟩

theorem rule_side_c [GI : GTab] {p0x0 : Bool} {r : Str} (h : rule_side p0x0 = r) : Pu Tryz.prog 115 [.bool p0x0] (.str r) := by
  unfold rule_side at h
  refine ACall.bodyN Tryz.func115 J Tryz.ntmps115 Tryz.results115 J J ?_
  refine tSR<|rA J J<|rN<|tS<|tSR<|rM J J<|rN<|ATodo.cond J (fun hc=>?_) (fun hc=>?_)
  · refine have h := iteT hc h; tSR<|rA J J<|rN<|ATodo.ret<|?_
    obtain rfl := h
    exact ImpX.here ⟨_,.cons (.tmp _ _ J) .nil,J⟩
  · refine have h := iteFb hc h; tK<|tSR<|rA J J<|rN<|ATodo.ret<|?_
    obtain rfl := h
    exact ImpX.here ⟨_,.cons (.tmp _ _ J) .nil,J⟩

theorem rule_empties_c [GI : GTab] {r : (List Str)} (h : rule_empties = r) : Pu Tryz.prog 116 [] (lE1 r) := by
  unfold rule_empties at h
  refine ACall.bodyN Tryz.func116 J Tryz.ntmps116 Tryz.results116 J J ?_
  refine tSR<|rA J J<|rN<|tSR<|n_buildSliceL (xs := ([([107,101,101,112] : Str),([111,102,102] : Str),([111,110] : Str)]).map AV.str) J J J J J J<|rA J J<|rN<|ATodo.ret<|?_
  obtain rfl := h
  exact ImpX.here ⟨_,.cons (.tmp _ _ J) .nil,J⟩

theorem strings_Join_c {p0x0 : List Str} {p1x0 : Str} {r : Str} (h : strings_Join p0x0 p1x0 = some r) : Pu Tryz.prog 118 [lE1 p0x0,.str p1x0] (.str r) := by
  unfold strings_Join at h
  refine ACall.bodyN Tryz.func118 J Tryz.ntmps118 Tryz.results118 J J ?_
  refine tSR<|rA J J<|rN<|tS<|tSR<|rM J J<|ARun.qv (t_len J) J<|rN<|ATodo.block<|tSR<|ARun.qv (q_eql J J) J<|rA J J<|rN<|ATodo.cond_d J (fun hc=>?_) (fun hc=>?_)
  · refine have h := iteT hc h; tSR<|rA J J<|rN<|ATodo.ret<|?_
    obtain rfl := Option.some.inj h
    exact ImpX.here ⟨_,.cons (.tmp _ _ J) .nil,J⟩
  · refine have h := iteF hc h; tSR<|ARun.qv (q_eql J J) J<|rA J J<|rN<|ATodo.cond_d J (fun hc=>?_) (fun hc=>?_)
    · refine have h := iteT hc h; tSR<|rM J J<|bndE h fun v1 e1 h=>ARun.qv (t_index J J J e1 J J) J<|ARun.qv (q_load_rptr J J J) J<|rA J J<|rN<|ATodo.ret<|?_
      obtain rfl := Option.some.inj h
      exact ImpX.here ⟨_,.cons (.tmp _ _ J) .nil,J⟩
    · refine have h := iteF hc h; tK<|ATodo.blk<|tSR<|rA J J<|rN<|tS<|tSR<|rM J J<|ARun.qv (q_len_str J) J<|ARun.qv (q_gtr J J) J<|rN<|ATodo.cut (fun σ'=>∃ (n2 : Int),strings_Join_j1 p0x0 p1x0 n2 = some r ∧ σ' = ⟨75,[(0,lE1 p0x0),(1,.str p1x0),(5,I n2)],[]⟩) ?_ ?_
      · refine ATodo.cond_d J (fun hc=>?_) (fun hc=>?_)
        · refine have h := iteT hc h; tS<|tSR<|rM J J<|ARun.qv (q_len_str J) J<|rM J J<|ARun.qv (t_len J) J<|ARun.qv (q_subw J J) J<|bndE h fun n3 e2 h=>ARun.qv (t_quoS J J e2) J<|ARun.qv (q_geq J J) J<|rN<|ATodo.cond_d J (fun hc=>?_) (fun hc=>?_)
          · refine have h := iteT hc h; tR<|?_
            cases h
          · exact have h := iteF hc h; tK<|tR<|rM J J<|rM J J<|ARun.qv (q_len_str J) J<|rM J J<|ARun.qv (t_len J) J<|ARun.qv (q_subw J J) J<|ARun.qv (q_mulw J J) J<|ARun.qv (q_addw J J) J<|rA J J<|rN<|ATodo.stop<|ImpX.lq [] ⟨w64 ((0 : Int) + (w64 ((p1x0.length : Int) * (w64 ((p0x0.length : Int) - (1 : Int)))))),h,J⟩ J J
        · exact have h := iteF hc h; tK<|ATodo.stop<|ImpX.lq [] ⟨(0 : Int),h,J⟩ J J
      · rintro σ' ⟨n2, h, rfl⟩
        unfold strings_Join_j1 at h
        refine tS<|tSR<|rM J J<|ARun.qv (t_len J) J<|rM J J<|rN<|ATodo.block<|ATodo.loopI (fun x : Int × Int=>strings_Join_b1 p0x0 p1x0 x.1 x.2) (fun x σ'=>σ' = ⟨75,[(0,lE1 p0x0),(1,.str p1x0),(5,I x.1),(39,lE1 p0x0),(40,I (p0x0.length : Int)),(41,I x.2)],[]⟩) h ?_ ?_
        · exact ImpX.lq [] J J J
        · intro x z1 σ' J1 hmk h hJ1 hA1
          obtain ⟨n6, n7⟩ := x
          obtain rfl := hmk
          replace h : strings_Join_b1 p0x0 p1x0 n6 n7 = some z1 := h
          unfold strings_Join_b1 at h
          refine tSR<|ARun.qv (q_lss J J) J<|rN<|tS<|ATodo.cond_d J (fun hc=>?_) (fun hc=>?_)
          · refine have h := iteT hc h; tK<|tS<|ATodo.block<|tSR<|bndE h fun v8 e3 h=>ARun.qv (t_index J J J e3 J J) J<|ARun.qv (q_load_rptr J J J) J<|rA J J<|rN<|tS<|tSR<|rM J J<|ARun.qv (q_len_str J) J<|rM J J<|ARun.qv (q_subw J J) J<|ARun.qv (q_gtr J J) J<|rN<|ATodo.cond_d J (fun hc=>?_) (fun hc=>?_)
            · refine have h := iteT hc h; tR<|?_
              cases h
            · refine have h := iteF hc h; tK<|tR<|rM J J<|rM J J<|ARun.qv (q_len_str J) J<|ARun.qv (q_addw J J) J<|rA J J<|rN<|ATodo.blk<|tR<|ARun.qv (q_addw J J) J<|rM J J<|rN<|ATodo.stop<|?_
              obtain rfl := Option.some.inj h
              exact hJ1 _ _ J<|ImpX.lq [] J J J
          · refine have h := iteF hc h; ATodo.exit J<|have h := outL h hA1; ?_
            unfold strings_Join_k2 at h
            refine tSR<|n_allocB 5 J J fun b9=>rN<|tSR<|rM J J<|bndE h fun v10 e4 h=>t_call1 J (strings_Builder_Grow_c e4) (CoL.refl _) (.cons .p0 .nil) (fun _=>J) J fun b11=>rN<|tSR<|rM J J<|bndE h fun v12 e5 h=>ARun.qv (t_index J J J e5 J J) J<|ARun.qv (q_load_rptr J J J) J<|bndE h fun q13 e6 h=>t_call1 J (strings_Builder_WriteString_c e6) (CoL.refl _) (.cons .p0 .nil) (fun _=>J) J fun b14=>rN<|tS<|tSR<|rM J J<|bndE h fun l15 e7 h=>ARun.qv (t_slice_list J J (.some _ _ _ J) .none J J e7) J<|ARun.qv (t_len J) J<|rM J J<|rN<|ATodo.block<|ATodo.loopI (fun x : Str × Int=>strings_Join_b2 p1x0 l15 x.1 x.2) (fun x σ'=>∃ (b20 : Bk),σ' = ⟨75,[(1,.str p1x0),(8,.ptr b9 0),(63,lE1 l15),(64,I (l15.length : Int)),(65,I x.2)],[(b9,.bld 151 5 b20.blk x.1)]⟩) h ?_ ?_
            · exact ImpX.lq [0] ⟨b14,J⟩ J J
            · intro x z2 σ' J2 hmk h hJ2 hA2
              obtain ⟨q19, n21⟩ := x
              obtain ⟨b20, rfl⟩ := hmk
              replace h : strings_Join_b2 p1x0 l15 q19 n21 = some z2 := h
              unfold strings_Join_b2 at h
              refine tSR<|ARun.qv (q_lss J J) J<|rN<|tS<|ATodo.cond_d J (fun hc=>?_) (fun hc=>?_)
              · refine have h := iteT hc h; tK<|tS<|ATodo.block<|tSR<|bndE h fun v22 e8 h=>ARun.qv (t_index J J J e8 J J) J<|ARun.qv (q_load_rptr J J J) J<|rA J J<|rN<|tSR<|rM J J<|bndE h fun q23 e9 h=>t_call1 J (strings_Builder_WriteString_c e9) (CoL.refl _) (.cons .p0 .nil) (fun _=>J) J fun b24=>rN<|tR<|rM J J<|bndE h fun q25 e10 h=>t_call1 J (strings_Builder_WriteString_c e10) (CoL.refl _) (.cons .p0 .nil) (fun _=>J) J fun b26=>rN<|ATodo.blk<|tR<|ARun.qv (q_addw J J) J<|rM J J<|rN<|ATodo.stop<|?_
                obtain rfl := Option.some.inj h
                exact hJ2 _ _ J<|ImpX.lq [0] ⟨b26,J⟩ J J
              · refine have h := iteF hc h; ATodo.exit J<|have h := outL h hA2; tSR<|t_call0 J strings_Builder_String_c (CoL.refl _) (.cons .p0 .nil) J J<|rA J J<|rN<|ATodo.ret<|?_
                obtain rfl := Option.some.inj h
                exact ImpX.here ⟨_,.cons (.tmp _ _ J) .nil,J⟩

theorem rule_Text_c {p0x0 : List Rule} {r : Str × Int} (h : rule_Text p0x0 = some r) : Pu Tryz.prog 41 [lE2 p0x0] (.tup [.str r.1,I r.2]) := by
  unfold rule_Text at h
  refine ACall.bodyN Tryz.func41 J Tryz.ntmps41 Tryz.results41 J J ?_
  refine tSR<|rA J J<|rA J J<|rN<|tS<|tSR<|rM J J<|bndE h fun v1 e1 h=>r_callp J (rule_CheckRules_c e1) (CoL.refl _) J<|rA J J<|rN<|tSR<|rM J J<|ARun.qv (q_neq J J) J<|rN<|ATodo.cond_d J (fun hc=>?_) (fun hc=>?_)
  · refine have h := iteT hc h; tSR<|rM J J<|rA J J<|rA J J<|rN<|ATodo.ret<|?_
    obtain rfl := Option.some.inj h
    exact ImpX.here ⟨_,.cons (.tmp _ _ J) (.cons (.tmp _ _ J) .nil),J⟩
  · refine have h := iteF hc h; tK<|tSR<|n_allocB 5 J J fun b2=>rN<|tS<|tSR<|rM J J<|ARun.qv (t_len J) J<|rM J J<|rN<|ATodo.block<|ATodo.loopI (fun x : Str × Int=>rule_Text_b1 p0x0 x.1 x.2) (fun x σ'=>∃ (b7 : Bk),σ' = ⟨60,[(5,.ptr b2 0),(14,lE2 p0x0),(15,I (p0x0.length : Int)),(16,I x.2)],[(b2,.bld 151 5 b7.blk x.1)]⟩) h ?_ ?_
    · exact ImpX.lq [0] ⟨(⟨none,0⟩ : Bk),J⟩ J J
    · intro x z1 σ' J1 hmk h hJ1 hA1
      obtain ⟨q6, n8⟩ := x
      obtain ⟨b7, rfl⟩ := hmk
      replace h : rule_Text_b1 p0x0 q6 n8 = some z1 := h
      unfold rule_Text_b1 at h
      refine tSR<|ARun.qv (q_lss J J) J<|rN<|tS<|ATodo.cond_d J (fun hc=>?_) (fun hc=>?_)
      · refine have h := iteT hc h; tK<|tS<|ATodo.block<|tSR<|bndE h fun v9 e2 h=>ARun.qv (t_index J J J e2 J J) J<|ARun.qv (q_load_rptr_agg J J J) J<|n_alloc J J J J fun b10=>n_store_ptr J J J J .p0 J J<|rN<|tS<|ATodo.regionM (id := 8) (A := [0,1,0,4,0,0,32,96,240,496,0,1024,3088,0,8192,31760,0,65536,261136,0,524288,2096144,0,4194304,16776208,0,33554432,134216720,268434448,0,536870912,2147482640,4294966288,8589934591,17179869183]) 35 mixed J (by kernel_rfl) (by kernel_rfl)<|AM.qv (n_field_ptr J J) J<|AM.qv (q_load_ptr J J .p0 J) J<|AM.qv (n_field_ptr J J) J<|AM.qv (q_load_ptr J J .p0 J) J<|AM.callp J (rule_aggregates_c J) (CoL.refl _) J<|AM.qv (n_field_ptr J J) J<|AM.qv (q_load_ptr J J .p0 J) J<|AM.qv (q_subw J J) J<|bndE h fun v11 e3 h=>AM.qv (t_index J J J e3 J J) J<|AM.qv (q_load_rptr J J J) J<|AM.qv (n_field_ptr J J) J<|AM.qv (q_load_ptr J J .p0 J) J<|bndE h fun v12 e4 h=>AM.callp J (strconv_Itoa_c e4) (CoL.refl _) J<|AM.qv (n_field_ptr J J) J<|AM.qv (q_load_ptr J J .p0 J) J<|AM.callp J (rule_side_c J) (CoL.refl _) J<|AM.qv (n_field_ptr J J) J<|AM.qv (q_load_ptr J J .p0 J) J<|bndE h fun v13 e5 h=>AM.callp J (strconv_Itoa_c e5) (CoL.refl _) J<|AM.qv (n_field_ptr J J) J<|AM.qv (q_load_ptr J J .p0 J) J<|bndE h fun v14 e6 h=>AM.callp J (strconv_Itoa_c e6) (CoL.refl _) J<|AM.qv (n_field_ptr J J) J<|AM.qv (q_load_ptr J J .p0 J) J<|bndE h fun v15 e7 h=>AM.callp J (strconv_Itoa_c e7) (CoL.refl _) J<|AM.qv (n_field_ptr J J) J<|AM.qv (q_load_ptr J J .p0 J) J<|bndE h fun v16 e8 h=>AM.callp J (strconv_Itoa_c e8) (CoL.refl _) J<|AM.callp J (rule_empties_c J) (CoL.refl _) J<|AM.qv (n_field_ptr J J) J<|AM.qv (q_load_ptr J J .p0 J) J<|bndE h fun v17 e9 h=>AM.qv (t_index J J J e9 J J) J<|AM.qv (q_load_rptr J J J) J<|AM.buildSliceL (xs := ([v9.Key,v9.Metric,v11,v12,(rule_side v9.Above),v13,v14,v15,v16,v17] : List Str).map AV.str) J J J J J J<|AM.qv (q_assign J) J<|AM.nil<|rN<|tR<|rM J J<|bndE h fun v18 e10 h=>r_callp J (strings_Join_c e10) (CoL.refl _) J<|bndE h fun q19 e11 h=>ARun.qv (q_sadd e11 J J) J<|bndE h fun q20 e12 h=>t_call1 J (strings_Builder_WriteString_c e12) (CoL.refl _) (.cons .p1 .nil) (fun _=>J) J fun b21=>rN<|ATodo.blk<|tR<|ARun.qv (q_addw J J) J<|rM J J<|rN<|ATodo.stop<|?_
        obtain rfl := Option.some.inj h
        exact hJ1 _ _ J<|ImpX.lq [0] ⟨b21,J⟩ J J
      · refine have h := iteF hc h; ATodo.exit J<|have h := outL h hA1; tSR<|t_call0 J strings_Builder_String_c (CoL.refl _) (.cons .p0 .nil) J J<|rA J J<|rA J J<|rN<|ATodo.ret<|?_
        obtain rfl := Option.some.inj h
        exact ImpX.here ⟨_,.cons (.tmp _ _ J) (.cons (.tmp _ _ J) .nil),J⟩

theorem Q_in_c [GI : GTab] {p0x0 : Int} {p1x0 : Int} {p2x0 : Int} {r : Bool} (h : Q_in p0x0 p1x0 p2x0 = r) : Pu Tryz.prog 66 [I p0x0,I p1x0,I p2x0] (.bool r) := by
  unfold Q_in at h
  refine ACall.bodyN Tryz.func66 J Tryz.ntmps66 Tryz.results66 J J ?_
  refine tSR<|rA J J<|rN<|tS<|ATodo.cut (fun σ'=>∃ (c1 : Bool),Q_in_j1 c1 = r ∧ σ' = ⟨15,[(6,.bool c1)],[]⟩) ?_ ?_
  · refine tR<|rM J J<|rM J J<|ARun.qv (q_leq J J) J<|rM J J<|ARun.guard_dt J J J (fun hc=>?_) (fun hc=>?_)
    · rw [andTd hc] at h
      exact rM J J<|rY J J J<|rM J J<|rY J J J<|ARun.qv (q_leq J J) J<|rT J J J<|rA J J<|rN<|ATodo.stop<|ImpX.lq [] ⟨decide (p0x0 ≤ p2x0),h,J⟩ J J
    · rw [andFd hc] at h
      exact rG J J J J<|rG J J J J<|rE J J J<|rA J J<|rN<|ATodo.stop<|ImpX.lq [] ⟨false,h,J⟩ J J
  · rintro σ' ⟨c1, h, rfl⟩
    unfold Q_in_j1 at h
    refine ATodo.ret<|?_
    obtain rfl := h
    exact ImpX.here ⟨_,.cons (.tmp _ _ J) .nil,J⟩

theorem Q_Key_c {p0x0 : Str} {r : Bool} (h : Q_Key p0x0 = some r) : Pu Tryz.prog 65 [.str p0x0] (.bool r) := by
  unfold Q_Key at h
  refine ACall.bodyN Tryz.func65 J Tryz.ntmps65 Tryz.results65 J J ?_
  refine tSR<|rA J J<|rN<|tS<|ATodo.cut (fun σ'=>∃ (c1 : Bool),Q_Key_j1 c1 = some r ∧ σ' = ⟨17,[(2,.bool c1)],[]⟩) ?_ ?_
  · refine tR<|rM J J<|ARun.qv (q_len_str J) J<|r_callp J (Q_in_c J) (CoL.refl _) J<|rM J J<|ARun.guard J J J (fun hc=>?_) (fun hc=>?_)
    · refine have h := iteT hc h; rM J J<|rY J J J<|bndE h fun v2 e1 h=>r_callp J (strings_Trim_c e1) (CoL.refl _) J<|rY J J J<|ARun.qv (q_seq J J) J<|rT J J J<|rM J J<|ARun.guard_dt J J J (fun hc=>?_) (fun hc=>?_)
      · exact have h := iteT hc h; rM J J<|rY J J J<|bndE h fun c3 e2 h=>ARun.qv (t_index_str J J e2) J<|rY J J J<|r_callp J (strings_IndexByte_c J) (CoL.refl _) J<|rY J J J<|ARun.qv (q_geq J J) J<|rT J J J<|rA J J<|rN<|ATodo.stop<|ImpX.lq [] ⟨decide ((0 : Int) ≤ (indexByteI ([97,98,99,100,101,102,103,104,105,106,107,108,109,110,111,112,113,114,115,116,117,118,119,120,121,122] : Str) (c3.toNat : Int))),h,J⟩ J J
      · exact have h := iteF hc h; rG J J J J<|rG J J J J<|rG J J J J<|rE J J J<|rA J J<|rN<|ATodo.stop<|ImpX.lq [] ⟨false,h,J⟩ J J
    · exact have h := iteFb hc h; rG J J J J<|rG J J J J<|rE J J J<|rM J J<|rG J J J J<|rG J J J J<|rG J J J J<|rG J J J J<|rE J J J<|rA J J<|rN<|ATodo.stop<|ImpX.lq [] ⟨false,h,J⟩ J J
  · rintro σ' ⟨c1, h, rfl⟩
    unfold Q_Key_j1 at h
    refine ATodo.ret<|?_
    obtain rfl := Option.some.inj h
    exact ImpX.here ⟨_,.cons (.tmp _ _ J) .nil,J⟩

theorem Q_RulesFault_1x_c [GI : GTab] {p0x0 : Int} {r : Bool} (h : Q_RulesFault_1x p0x0 = r) : Pu Tryz.prog 80 [I p0x0] (.bool r) := by
  unfold Q_RulesFault_1x at h
  refine ACall.bodyN Tryz.func80 J Tryz.ntmps80 Tryz.results80 J J ?_
  refine tSR<|rA J J<|rN<|tSR<|rM J J<|r_callp J (Q_in_c J) (CoL.refl _) J<|rA J J<|rN<|ATodo.ret<|?_
  obtain rfl := h
  exact ImpX.here ⟨_,.cons (.tmp _ _ J) .nil,J⟩

theorem Q_RulesFault_c {p0x0 : List Rule} {r : Int} (h : Q_RulesFault p0x0 = some r) : Pu Tryz.prog 23 [lE2 p0x0] (I r) := by
  unfold Q_RulesFault at h
  refine ACall.bodyN Tryz.func23 J Tryz.ntmps23 Tryz.results23 J J ?_
  refine tSR<|rA J J<|rN<|tS<|tSR<|rM J J<|ARun.qv (t_len J) J<|ARun.qv (q_gtr J J) J<|rN<|ATodo.cond_d J (fun hc=>?_) (fun hc=>?_)
  · refine have h := iteT hc h; tSR<|rA J J<|rN<|ATodo.ret<|?_
    obtain rfl := Option.some.inj h
    exact ImpX.here ⟨_,.cons (.tmp _ _ J) .nil,J⟩
  · refine have h := iteF hc h; tK<|tSR<|rA J J<|rN<|tS<|tSR<|rM J J<|ARun.qv (t_len J) J<|rM J J<|rN<|ATodo.block<|ATodo.loopI (fun x : Int=>Q_RulesFault_b1 p0x0 x) (fun x σ'=>σ' = ⟨105,[(0,lE2 p0x0),(3,.func (.func 80) []),(9,lE2 p0x0),(10,I (p0x0.length : Int)),(11,I x)],[]⟩) h ?_ ?_
    · exact ImpX.lq [] J J J
    · intro n2 z1 σ' J1 hmk h hJ1 hA1
      obtain rfl := hmk
      replace h : Q_RulesFault_b1 p0x0 n2 = some z1 := h
      unfold Q_RulesFault_b1 at h
      refine tSR<|ARun.qv (q_lss J J) J<|rN<|tS<|ATodo.cond_d J (fun hc=>?_) (fun hc=>?_)
      · refine have h := iteT hc h; tK<|tS<|ATodo.block<|tSR<|rM J J<|bndE h fun v3 e1 h=>ARun.qv (t_index J J J e1 J J) J<|ARun.qv (q_load_rptr_agg J J J) J<|n_alloc J J J J fun b4=>rA J J<|n_store_ptr J J J J .p0 J J<|rN<|ATodo.block<|tSR<|rF J J J<|rL J J .p0 J J<|bndE h fun v5 e2 h=>r_callp J (Q_Key_c e2) (CoL.refl _) J<|ARun.qv (q_not J) J<|rA J J<|rN<|ATodo.cond J (fun hc=>?_) (fun hc=>?_)
        · refine have h := iteT hc h; tSR<|rA J J<|rN<|ATodo.ret<|have h := outL h hA1; ?_
          obtain rfl := Option.some.inj h
          exact ImpX.here ⟨_,.cons (.tmp _ _ J) .nil,J⟩
        · refine have h := iteFb hc h; tS<|ATodo.cut (fun σ'=>∃ (c6 : Bool),Q_RulesFault_j1 n2 v3 c6 = some z1 ∧ σ' = ⟨105,[(0,lE2 p0x0),(3,.func (.func 80) []),(5,.ptr b4 0),(9,lE2 p0x0),(10,I (p0x0.length : Int)),(11,I n2),(21,.bool c6)],[(b4,.cells (cE0 v3))]⟩) ?_ ?_
          · refine ATodo.regionM (id := 9) (A := [0,1,3,7,15,7,7,71,231,487,999,2047,4095,8191]) 14 mixed J (by kernel_rfl) (by kernel_rfl)<|AM.qv (q_move J) J<|AM.qv (q_gtr J J) J<|AM.qv (q_move J) J<|AM.guard_dt J J J (fun hc=>?_) (fun hc=>?_)
            · exact have h := iteT hc h; AM.qv (n_field_ptr J J) J<|AM.guard_yes J J J<|AM.qv (q_load_ptr J J .p0 J) J<|AM.guard_yes J J J<|AM.qv (q_move J) J<|AM.guard_yes J J J<|AM.qv (q_move J) J<|AM.guard_yes J J J<|AM.qv (q_subw J J) J<|AM.guard_yes J J J<|bndE h fun v7 e3 h=>AM.qv (t_index J J J e3 J J) J<|AM.guard_yes J J J<|AM.qv (n_field_rptr J J) J<|AM.guard_yes J J J<|AM.qv (q_load_rptr J J J) J<|AM.guard_yes J J J<|AM.qv (t_sleq J J) J<|AM.qv (q_pick_t J J) J<|AM.qv (q_assign J) J<|AM.nil<|rN<|ATodo.stop<|ImpX.lq [0] ⟨Op.bytesLess v3.Key v7.Key || v3.Key == v7.Key,h,J⟩ J J
            · exact have h := iteF hc h; AM.guard_no J J J J<|AM.guard_no J J J J<|AM.guard_no J J J J<|AM.guard_no J J J J<|AM.guard_no J J J J<|AM.guard_no J J J J<|AM.guard_no J J J J<|AM.guard_no J J J J<|AM.qv (q_pick_f J J) J<|AM.qv (q_assign J) J<|AM.nil<|rN<|ATodo.stop<|ImpX.lq [0] ⟨false,h,J⟩ J J
          · rintro σ' ⟨c6, h, rfl⟩
            unfold Q_RulesFault_j1 at h
            refine ATodo.cond J (fun hc=>?_) (fun hc=>?_)
            · refine have h := iteT hc h; tSR<|rA J J<|rN<|ATodo.ret<|have h := outL h hA1; ?_
              obtain rfl := Option.some.inj h
              exact ImpX.here ⟨_,.cons (.tmp _ _ J) .nil,J⟩
            · refine have h := iteFb hc h; tSR<|rF J J J<|rL J J .p0 J J<|bndE h fun v8 e4 h=>r_callp J (Q_Key_c e4) (CoL.refl _) J<|ARun.qv (q_not J) J<|rA J J<|rN<|ATodo.cond J (fun hc=>?_) (fun hc=>?_)
              · refine have h := iteT hc h; tSR<|rA J J<|rN<|ATodo.ret<|have h := outL h hA1; ?_
                obtain rfl := Option.some.inj h
                exact ImpX.here ⟨_,.cons (.tmp _ _ J) .nil,J⟩
              · refine have h := iteFb hc h; tSR<|rF J J J<|rL J J .p0 J J<|r_callp J (Q_in_c J) (CoL.refl _) J<|ARun.qv (q_not J) J<|rA J J<|rN<|ATodo.cond J (fun hc=>?_) (fun hc=>?_)
                · refine have h := iteT hc h; tSR<|rA J J<|rN<|ATodo.ret<|have h := outL h hA1; ?_
                  obtain rfl := Option.some.inj h
                  exact ImpX.here ⟨_,.cons (.tmp _ _ J) .nil,J⟩
                · refine have h := iteFb hc h; tS<|ATodo.cut (fun σ'=>∃ (c9 : Bool),Q_RulesFault_j2 n2 v3 c9 = some z1 ∧ σ' = ⟨105,[(0,lE2 p0x0),(3,.func (.func 80) []),(5,.ptr b4 0),(9,lE2 p0x0),(10,I (p0x0.length : Int)),(11,I n2),(45,.bool c9)],[(b4,.cells (cE0 v3))]⟩) ?_ ?_
                  · refine tR<|rF J J J<|rL J J .p0 J J<|r_callp J (Q_in_c J) (CoL.refl _) J<|ARun.qv (q_not J) J<|rM J J<|ARun.guard J J J (fun hc=>?_) (fun hc=>?_)
                    · rw [orFb hc] at h
                      refine rM J J<|rY J J J<|rF J J J<|rY J J J<|rL J J .p0 J J<|rY J J J<|r_callvp J J (Q_RulesFault_1x_c J) (CoL.refl _) J<|rY J J J<|ARun.qv (q_not J) J<|rE J J J<|rM J J<|ARun.guard J J J (fun hc=>?_) (fun hc=>?_)
                      · rw [orFb hc] at h
                        refine rM J J<|rY J J J<|rF J J J<|rY J J J<|rL J J .p0 J J<|rY J J J<|r_callvp J J (Q_RulesFault_1x_c J) (CoL.refl _) J<|rY J J J<|ARun.qv (q_not J) J<|rE J J J<|rM J J<|ARun.guard J J J (fun hc=>?_) (fun hc=>?_)
                        · rw [orFb hc] at h
                          refine rF J J J<|rY J J J<|rL J J .p0 J J<|rY J J J<|rM J J<|ARun.guard J J J (fun hc=>?_) (fun hc=>?_)
                          · rw [if_pos hc] at h
                            refine rF J J J<|rY J J J<|rL J J .p0 J J<|rY J J J<|rF J J J<|rY J J J<|rL J J .p0 J J<|rY J J J<|ARun.qv (q_gtr J J) J<|rY J J J<|rT J J J<|rE J J J<|rM J J<|ARun.guard_df J J J (fun hc=>?_) (fun hc=>?_)
                            · rw [orFd hc] at h
                              refine rF J J J<|rY J J J<|rL J J .p0 J J<|rY J J J<|ARun.qv (q_not J) J<|rY J J J<|rM J J<|ARun.guard J J J (fun hc=>?_) (fun hc=>?_)
                              · rw [if_pos hc] at h
                                refine rF J J J<|rY J J J<|rL J J .p0 J J<|rY J J J<|rF J J J<|rY J J J<|rL J J .p0 J J<|rY J J J<|ARun.qv (q_lss J J) J<|rY J J J<|rT J J J<|rE J J J<|rM J J<|ARun.guard_df J J J (fun hc=>?_) (fun hc=>?_)
                                · rw [orFd hc] at h
                                  refine rF J J J<|rY J J J<|rL J J .p0 J J<|rY J J J<|r_callp J (Q_in_c J) (CoL.refl _) J<|rY J J J<|ARun.qv (q_not J) J<|rE J J J<|rM J J<|ARun.guard J J J (fun hc=>?_) (fun hc=>?_)
                                  · rw [orFb hc] at h
                                    exact rF J J J<|rY J J J<|rL J J .p0 J J<|rY J J J<|r_callp J (Q_in_c J) (CoL.refl _) J<|rY J J J<|ARun.qv (q_not J) J<|rE J J J<|rA J J<|rN<|ATodo.stop<|ImpX.lq [0] ⟨!(Q_in v3.Rest (0 : Int) (2592000000 : Int)),h,J⟩ J J
                                  · rw [orTb hc] at h
                                    exact rG J J J J<|rG J J J J<|rG J J J J<|rT J J J<|rA J J<|rN<|ATodo.stop<|ImpX.lq [0] ⟨true,h,J⟩ J J
                                · rw [orTd hc] at h
                                  exact rG J J J J<|rG J J J J<|rG J J J J<|rT J J J<|rM J J<|rG J J J J<|rG J J J J<|rG J J J J<|rG J J J J<|rT J J J<|rA J J<|rN<|ATodo.stop<|ImpX.lq [0] ⟨true,h,J⟩ J J
                              · rw [if_neg (by simp [hc] : ¬ (_ = true))] at h
                                refine rG J J J J<|rG J J J J<|rG J J J J<|rG J J J J<|rY J J J<|rE J J J<|rE J J J<|rM J J<|rY J J J<|rF J J J<|rY J J J<|rL J J .p0 J J<|rY J J J<|r_callp J (Q_in_c J) (CoL.refl _) J<|rY J J J<|ARun.qv (q_not J) J<|rE J J J<|rM J J<|ARun.guard J J J (fun hc=>?_) (fun hc=>?_)
                                · rw [orFb hc] at h
                                  exact rF J J J<|rY J J J<|rL J J .p0 J J<|rY J J J<|r_callp J (Q_in_c J) (CoL.refl _) J<|rY J J J<|ARun.qv (q_not J) J<|rE J J J<|rA J J<|rN<|ATodo.stop<|ImpX.lq [0] ⟨!(Q_in v3.Rest (0 : Int) (2592000000 : Int)),h,J⟩ J J
                                · rw [orTb hc] at h
                                  exact rG J J J J<|rG J J J J<|rG J J J J<|rT J J J<|rA J J<|rN<|ATodo.stop<|ImpX.lq [0] ⟨true,h,J⟩ J J
                            · rw [orTd hc] at h
                              exact rG J J J J<|rG J J J J<|rG J J J J<|ARun.guard_und J J J<|ARun.guard_und J J J<|ARun.guard_und J J J<|ARun.guard_und J J J<|ARun.guard_und J J J<|rG J J J J<|rT J J J<|rM J J<|rG J J J J<|rG J J J J<|rG J J J J<|rG J J J J<|rT J J J<|rM J J<|rG J J J J<|rG J J J J<|rG J J J J<|rG J J J J<|rT J J J<|rA J J<|rN<|ATodo.stop<|ImpX.lq [0] ⟨true,h,J⟩ J J
                          · rw [if_neg (by simp [hc] : ¬ (_ = true))] at h
                            refine rG J J J J<|rG J J J J<|rG J J J J<|rG J J J J<|rY J J J<|rE J J J<|rE J J J<|rM J J<|rY J J J<|rF J J J<|rY J J J<|rL J J .p0 J J<|rY J J J<|ARun.qv (q_not J) J<|rY J J J<|rM J J<|ARun.guard J J J (fun hc=>?_) (fun hc=>?_)
                            · rw [if_pos hc] at h
                              refine rF J J J<|rY J J J<|rL J J .p0 J J<|rY J J J<|rF J J J<|rY J J J<|rL J J .p0 J J<|rY J J J<|ARun.qv (q_lss J J) J<|rY J J J<|rT J J J<|rE J J J<|rM J J<|ARun.guard_df J J J (fun hc=>?_) (fun hc=>?_)
                              · rw [orFd hc] at h
                                refine rF J J J<|rY J J J<|rL J J .p0 J J<|rY J J J<|r_callp J (Q_in_c J) (CoL.refl _) J<|rY J J J<|ARun.qv (q_not J) J<|rE J J J<|rM J J<|ARun.guard J J J (fun hc=>?_) (fun hc=>?_)
                                · rw [orFb hc] at h
                                  exact rF J J J<|rY J J J<|rL J J .p0 J J<|rY J J J<|r_callp J (Q_in_c J) (CoL.refl _) J<|rY J J J<|ARun.qv (q_not J) J<|rE J J J<|rA J J<|rN<|ATodo.stop<|ImpX.lq [0] ⟨!(Q_in v3.Rest (0 : Int) (2592000000 : Int)),h,J⟩ J J
                                · rw [orTb hc] at h
                                  exact rG J J J J<|rG J J J J<|rG J J J J<|rT J J J<|rA J J<|rN<|ATodo.stop<|ImpX.lq [0] ⟨true,h,J⟩ J J
                              · rw [orTd hc] at h
                                exact rG J J J J<|rG J J J J<|rG J J J J<|rT J J J<|rM J J<|rG J J J J<|rG J J J J<|rG J J J J<|rG J J J J<|rT J J J<|rA J J<|rN<|ATodo.stop<|ImpX.lq [0] ⟨true,h,J⟩ J J
                            · rw [if_neg (by simp [hc] : ¬ (_ = true))] at h
                              refine rG J J J J<|rG J J J J<|rG J J J J<|rG J J J J<|rY J J J<|rE J J J<|rE J J J<|rM J J<|rY J J J<|rF J J J<|rY J J J<|rL J J .p0 J J<|rY J J J<|r_callp J (Q_in_c J) (CoL.refl _) J<|rY J J J<|ARun.qv (q_not J) J<|rE J J J<|rM J J<|ARun.guard J J J (fun hc=>?_) (fun hc=>?_)
                              · rw [orFb hc] at h
                                exact rF J J J<|rY J J J<|rL J J .p0 J J<|rY J J J<|r_callp J (Q_in_c J) (CoL.refl _) J<|rY J J J<|ARun.qv (q_not J) J<|rE J J J<|rA J J<|rN<|ATodo.stop<|ImpX.lq [0] ⟨!(Q_in v3.Rest (0 : Int) (2592000000 : Int)),h,J⟩ J J
                              · rw [orTb hc] at h
                                exact rG J J J J<|rG J J J J<|rG J J J J<|rT J J J<|rA J J<|rN<|ATodo.stop<|ImpX.lq [0] ⟨true,h,J⟩ J J
                        · rw [orTb hc] at h
                          exact rG J J J J<|rG J J J J<|ARun.guard_und J J J<|ARun.guard_und J J J<|ARun.guard_und J J J<|ARun.guard_und J J J<|ARun.guard_und J J J<|rG J J J J<|rT J J J<|rM J J<|rG J J J J<|rG J J J J<|rG J J J J<|rG J J J J<|ARun.guard_und J J J<|ARun.guard_und J J J<|ARun.guard_und J J J<|ARun.guard_und J J J<|ARun.guard_und J J J<|rG J J J J<|rT J J J<|rM J J<|rG J J J J<|rG J J J J<|rG J J J J<|rG J J J J<|rT J J J<|rM J J<|rG J J J J<|rG J J J J<|rG J J J J<|rG J J J J<|rT J J J<|rA J J<|rN<|ATodo.stop<|ImpX.lq [0] ⟨true,h,J⟩ J J
                      · rw [orTb hc] at h
                        exact rG J J J J<|rG J J J J<|rG J J J J<|rG J J J J<|rT J J J<|rM J J<|rG J J J J<|rG J J J J<|rG J J J J<|ARun.guard_und J J J<|ARun.guard_und J J J<|ARun.guard_und J J J<|ARun.guard_und J J J<|ARun.guard_und J J J<|rG J J J J<|rT J J J<|rM J J<|rG J J J J<|rG J J J J<|rG J J J J<|rG J J J J<|ARun.guard_und J J J<|ARun.guard_und J J J<|ARun.guard_und J J J<|ARun.guard_und J J J<|ARun.guard_und J J J<|rG J J J J<|rT J J J<|rM J J<|rG J J J J<|rG J J J J<|rG J J J J<|rG J J J J<|rT J J J<|rM J J<|rG J J J J<|rG J J J J<|rG J J J J<|rG J J J J<|rT J J J<|rA J J<|rN<|ATodo.stop<|ImpX.lq [0] ⟨true,h,J⟩ J J
                    · rw [orTb hc] at h
                      exact rG J J J J<|rG J J J J<|rG J J J J<|rG J J J J<|rT J J J<|rM J J<|rG J J J J<|rG J J J J<|rG J J J J<|rG J J J J<|rG J J J J<|rT J J J<|rM J J<|rG J J J J<|rG J J J J<|rG J J J J<|ARun.guard_und J J J<|ARun.guard_und J J J<|ARun.guard_und J J J<|ARun.guard_und J J J<|ARun.guard_und J J J<|rG J J J J<|rT J J J<|rM J J<|rG J J J J<|rG J J J J<|rG J J J J<|rG J J J J<|ARun.guard_und J J J<|ARun.guard_und J J J<|ARun.guard_und J J J<|ARun.guard_und J J J<|ARun.guard_und J J J<|rG J J J J<|rT J J J<|rM J J<|rG J J J J<|rG J J J J<|rG J J J J<|rG J J J J<|rT J J J<|rM J J<|rG J J J J<|rG J J J J<|rG J J J J<|rG J J J J<|rT J J J<|rA J J<|rN<|ATodo.stop<|ImpX.lq [0] ⟨true,h,J⟩ J J
                  · rintro σ' ⟨c9, h, rfl⟩
                    unfold Q_RulesFault_j2 at h
                    refine ATodo.cond J (fun hc=>?_) (fun hc=>?_)
                    · refine have h := iteT hc h; tSR<|rA J J<|rN<|ATodo.ret<|have h := outL h hA1; ?_
                      obtain rfl := Option.some.inj h
                      exact ImpX.here ⟨_,.cons (.tmp _ _ J) .nil,J⟩
                    · refine have h := iteFb hc h; tSR<|rF J J J<|rL J J .p0 J J<|r_callp J (Q_in_c J) (CoL.refl _) J<|ARun.qv (q_not J) J<|rA J J<|rN<|ATodo.cond J (fun hc=>?_) (fun hc=>?_)
                      · refine have h := iteT hc h; tSR<|rA J J<|rN<|ATodo.ret<|have h := outL h hA1; ?_
                        obtain rfl := Option.some.inj h
                        exact ImpX.here ⟨_,.cons (.tmp _ _ J) .nil,J⟩
                      · refine have h := iteFb hc h; tK<|ATodo.blk<|ATodo.blk<|tR<|ARun.qv (q_addw J J) J<|rM J J<|rN<|ATodo.stop<|?_
                        obtain rfl := Option.some.inj h
                        exact hJ1 _ _ J<|ImpX.lq [] J J J
      · refine have h := iteF hc h; ATodo.exit J<|have h := outL h hA1; tSR<|rA J J<|rN<|ATodo.ret<|?_
        obtain rfl := Option.some.inj h
        exact ImpX.here ⟨_,.cons (.tmp _ _ J) .nil,J⟩

theorem Q_aggs_c [GI : GTab] {r : (List Str)} (h : Q_aggs = r) : Pu Tryz.prog 120 [] (lE1 r) := by
  unfold Q_aggs at h
  refine ACall.bodyN Tryz.func120 J Tryz.ntmps120 Tryz.results120 J J ?_
  refine tSR<|rA J J<|rN<|tSR<|n_buildSliceL (xs := ([([] : Str),([108,97,115,116] : Str),([109,105,110] : Str),([109,97,120] : Str),([109,101,97,110] : Str),([99,111,117,110,116] : Str),([99,104,97,110,103,101] : Str)]).map AV.str) J J J J J J<|rA J J<|rN<|ATodo.ret<|?_
  obtain rfl := h
  exact ImpX.here ⟨_,.cons (.tmp _ _ J) .nil,J⟩

theorem Q_empties_c [GI : GTab] {r : (List Str)} (h : Q_empties = r) : Pu Tryz.prog 121 [] (lE1 r) := by
  unfold Q_empties at h
  refine ACall.bodyN Tryz.func121 J Tryz.ntmps121 Tryz.results121 J J ?_
  refine tSR<|rA J J<|rN<|tSR<|n_buildSliceL (xs := ([([107,101,101,112] : Str),([111,102,102] : Str),([111,110] : Str)]).map AV.str) J J J J J J<|rA J J<|rN<|ATodo.ret<|?_
  obtain rfl := h
  exact ImpX.here ⟨_,.cons (.tmp _ _ J) .nil,J⟩

theorem Q_RuleLines_c {p0x0 : List Rule} {r : Str} (h : Q_RuleLines p0x0 = some r) : Pu Tryz.prog 42 [lE2 p0x0] (.str r) := by
  unfold Q_RuleLines at h
  refine ACall.bodyN Tryz.func42 J Tryz.ntmps42 Tryz.results42 J J ?_
  refine tSR<|rA J J<|rN<|tSR<|n_allocB 5 J J fun b1=>rN<|tSR<|rA J J<|rN<|tS<|tSR<|rM J J<|ARun.qv (t_len J) J<|rM J J<|rN<|ATodo.block<|ATodo.loopI (fun x : Str × Int=>Q_RuleLines_b1 p0x0 x.1 x.2) (fun x σ'=>∃ (b6 : Bk),σ' = ⟨58,[(3,.ptr b1 0),(4,.func (.func 55) []),(7,lE2 p0x0),(8,I (p0x0.length : Int)),(9,I x.2)],[(b1,.bld 151 5 b6.blk x.1)]⟩) h ?_ ?_
  · exact ImpX.lq [0] ⟨(⟨none,0⟩ : Bk),J⟩ J J
  · intro x z1 σ' J1 hmk h hJ1 hA1
    obtain ⟨q5, n7⟩ := x
    obtain ⟨b6, rfl⟩ := hmk
    replace h : Q_RuleLines_b1 p0x0 q5 n7 = some z1 := h
    unfold Q_RuleLines_b1 at h
    refine tSR<|ARun.qv (q_lss J J) J<|rN<|tS<|ATodo.cond_d J (fun hc=>?_) (fun hc=>?_)
    · refine have h := iteT hc h; tK<|tS<|ATodo.block<|tSR<|bndE h fun v8 e1 h=>ARun.qv (t_index J J J e1 J J) J<|ARun.qv (q_load_rptr_agg J J J) J<|n_alloc J J J J fun b9=>n_store_ptr J J J J .p0 J J<|rN<|bndE h fun v10 e2 h=>bndE h fun v11 e3 h=>bndE h fun v12 e4 h=>bndE h fun v13 e5 h=>bndE h fun v14 e6 h=>bndE h fun v15 e7 h=>bndE h fun v16 e8 h=>bndE h fun v17 e9 h=>ATodo.regionL (id := 6) (A := [0,1,0,4,0,0,32,112,240,0,0,1024,3600,0,8192,8192,57344,0,131072,516096,0,0,2097152,7347728,0,0,33554432,133176848,0,0,536870912,2146442768,0,0,8589934592,34358697488,68718435856,0,137438953472,549754773008,1099510586896,2199023255551,4398046511103,8796093022207,17592186044415]) 41 mixed J (by kernel_rfl) (by kernel_rfl) 13 [(13,26),(16,27)] AV.bool AV.str ([(14,true,([97,98,111,118,101] : Str)),(15,false,([98,101,108,111,119] : Str))] : List (Nat × Bool × Str)) J J J<|AL.am 13 J J<|AM.qv (n_field_ptr J J) J<|AM.qv (q_load_ptr J J .p0 J) J<|AM.qv (n_field_ptr J J) J<|AM.qv (q_load_ptr J J .p0 J) J<|AM.callp J (Q_aggs_c J) (CoL.refl _) J<|AM.qv (n_field_ptr J J) J<|AM.qv (q_load_ptr J J .p0 J) J<|AM.qv (t_index J J J e2 J J) J<|AM.qv (q_load_rptr J J J) J<|AM.qv (q_move J) J<|AM.qv (n_field_ptr J J) J<|AM.qv (q_load_ptr J J .p0 J) J<|AM.callvp J J (strconv_Itoa_c e3) (CoL.refl _) J<|AM.nil<|AL.mk J J J J<|AL.ins (gk := AV.bool) (gv := AV.str) (key := true) (v := ([97,98,111,118,101] : Str)) [(13,26)] J J J J J (fun _=>J) (fun _=>J) (fun _=>J) J<|AL.ins (gk := AV.bool) (gv := AV.str) (key := false) (v := ([98,101,108,111,119] : Str)) [(13,26)] J J J J J (fun _=>J) (fun _=>J) (fun _=>J) J<|AL.mv [(13,26)] J J J J J J J (fun _=>J)<|AL.am 2 J J<|AM.qv (n_field_ptr J J) J<|AM.qv (q_load_ptr J J .p0 J) J<|AM.nil<|AL.look (av := .str v12) [(16,27)] J J J J J J (fun _=>t_lookup (gk := AV.bool) (gv := AV.str) (M := ([(true,([97,98,111,118,101] : Str)),(false,([98,101,108,111,119] : Str))] : List (Bool × Str))) (key := v8.Above) (Z := []) J J .p0 J J J e4 J)<|AL.am 21 J J<|AM.qv (q_move J) J<|AM.qv (n_field_ptr J J) J<|AM.qv (q_load_ptr J J .p0 J) J<|AM.callvp J J (strconv_Itoa_c e5) (CoL.refl _) J<|AM.qv (q_move J) J<|AM.qv (n_field_ptr J J) J<|AM.qv (q_load_ptr J J .p0 J) J<|AM.callvp J J (strconv_Itoa_c e6) (CoL.refl _) J<|AM.qv (q_move J) J<|AM.qv (n_field_ptr J J) J<|AM.qv (q_load_ptr J J .p0 J) J<|AM.callvp J J (strconv_Itoa_c e7) (CoL.refl _) J<|AM.qv (q_move J) J<|AM.qv (n_field_ptr J J) J<|AM.qv (q_load_ptr J J .p0 J) J<|AM.callvp J J (strconv_Itoa_c e8) (CoL.refl _) J<|AM.callp J (Q_empties_c J) (CoL.refl _) J<|AM.qv (n_field_ptr J J) J<|AM.qv (q_load_ptr J J .p0 J) J<|AM.qv (t_index J J J e9 J J) J<|AM.qv (q_load_rptr J J J) J<|AM.nil<|AL.nil fun b18=>ARun.ghost<|ImpX.obEq (b := b18) (o' := mE3 ([(true,([97,98,111,118,101] : Str)),(false,([98,101,108,111,119] : Str))] : List (Bool × Str))) J .p0<|ImpX.here<|n_buildSliceL (xs := ([v8.Key,v8.Metric,v10,v11,v12,v13,v14,v15,v16,v17] : List Str).map AV.str) J J J J J J<|bndE h fun v19 e10 h=>r_callp J (strings_Join_c e10) (CoL.refl _) J<|bndE h fun q20 e11 h=>ARun.qv (q_sadd e11 J J) J<|bndE h fun q21 e12 h=>t_call1 J (strings_Builder_WriteString_c e12) (CoL.refl _) (.cons .p2 .nil) (fun _=>J) J fun b22=>rN<|ATodo.blk<|tR<|ARun.qv (q_addw J J) J<|rM J J<|rN<|ATodo.stop<|?_
      obtain rfl := Option.some.inj h
      exact hJ1 _ _ J<|ImpX.lq [0] ⟨b22,J⟩ J J
    · refine have h := iteF hc h; ATodo.exit J<|have h := outL h hA1; tSR<|t_call0 J strings_Builder_String_c (CoL.refl _) (.cons .p0 .nil) J J<|rA J J<|rN<|ATodo.ret<|?_
      obtain rfl := Option.some.inj h
      exact ImpX.here ⟨_,.cons (.tmp _ _ J) .nil,J⟩

theorem Stream_Changed_c [GI : GTab] {b_0 : Bk} {p0x0 : Fleetmake_Stream} {p1x0 : Str} {p2x0 : Str} {r : Str × Fleetmake_Stream} (h : Stream_Changed p0x0 p1x0 p2x0 = some r) : ACall Tryz.prog 52 [.ptr b_0 0,.str p1x0,.str p2x0] [(b_0,.cells [lE0 p0x0.L,I p0x0.at_])] (T0 ([(b_0,.cells [lE0 r.2.L,I r.2.at_])]) (.str r.1)) := by
  unfold Stream_Changed at h
  refine ACall.lessH ?_
  refine ACall.bodyN Tryz.func52 J Tryz.ntmps52 Tryz.results52 J J ?_
  refine tSR<|rA J J<|rN<|tS<|tS<|ATodo.cut (fun σ'=>∃ (c1 : Bool),Stream_Changed_j1 p0x0 p1x0 p2x0 c1 = some r ∧ σ' = ⟨63,[(0,.ptr b_0 0),(1,.str p1x0),(2,.str p2x0),(14,.bool c1)],[(b_0,.cells [lE0 p0x0.L,I p0x0.at_])]⟩) ?_ ?_
  · refine tR<|rM J J<|ARun.qv (q_seq J J) J<|rM J J<|ARun.guard_df J J J (fun hc=>?_) (fun hc=>?_)
    · rw [orFd hc] at h
      exact rM J J<|rY J J J<|ARun.qv (q_seq J J) J<|rE J J J<|rN<|ATodo.stop<|ImpX.lq [0] ⟨decide (p2x0 = ([] : Str)),h,J⟩ J J
    · rw [orTd hc] at h
      exact rG J J J J<|rT J J J<|rN<|ATodo.stop<|ImpX.lq [0] ⟨true,h,J⟩ J J
  · rintro σ' ⟨c1, h, rfl⟩
    unfold Stream_Changed_j1 at h
    refine ATodo.cond J (fun hc=>?_) (fun hc=>?_)
    · refine have h := iteT hc h; tSR<|rM J J<|rA J J<|rN<|ATodo.ret<|?_
      obtain rfl := Option.some.inj h
      exact ImpX.here ⟨_,.cons (.tmp _ _ J) .nil,_,.cons .p0 .nil,⟨J,J⟩⟩
    · refine have h := iteFb hc h; tK<|tSR<|rM J J<|rM J J<|ARun.qv (q_len_str J) J<|bndE h fun v2 e1 h=>t_call0 J (Stream_Next_c e1) (CoL.refl _) (.cons .p0 .nil) J J<|rA J J<|rN<|tSR<|rM J J<|rM J J<|rM J J<|ARun.qv (q_len_str J) J<|bndE h fun v3 e2 h=>t_call0 J (Stream_Next_c e2) (CoL.refl _) (.cons .p0 .nil) J J<|bndE h fun c4 e3 h=>ARun.qv (t_index_str J J e3) J<|rA J J<|rN<|tS<|tSR<|rM J J<|bndE h fun v5 e4 h=>t_call0 J (Stream_Next_c e4) (CoL.refl _) (.cons .p0 .nil) J J<|rN<|ATodo.block<|tSR<|ARun.qv (q_eql J J) J<|rA J J<|rN<|ATodo.cond_d J (fun hc=>?_) (fun hc=>?_)
      · refine have h := iteT hc h; tS<|ATodo.regionM (id := 7) (A := [0,0,3,0,8,24,63,0,0,256,896,2047,4095]) 13 mixed J (by kernel_rfl) (by kernel_rfl)<|AM.qv (q_move J) J<|AM.qv (q_move J) J<|bndE h fun l6 e5 h=>AM.qv (t_slice_str J .none (.some _ _ _ J) J J e5) J<|AM.qv (q_move J) J<|AM.qv (q_conv_int J) J<|AM.qv (q_conv_is J) J<|bndE h fun q7 e6 h=>AM.qv (q_sadd e6 J J) J<|AM.qv (q_move J) J<|AM.qv (q_move J) J<|AM.qv (q_addw J J) J<|bndE h fun l8 e7 h=>AM.qv (t_slice_str J (.some _ _ _ J) .none J J e7) J<|bndE h fun q9 e8 h=>AM.qv (q_sadd e8 J J) J<|AM.qv (q_assign J) J<|AM.nil<|rN<|ATodo.ret<|?_
        obtain rfl := Option.some.inj h
        exact ImpX.here ⟨_,.cons (.tmp _ _ J) .nil,_,.cons .p0 .nil,⟨J,J⟩⟩
      · refine have h := iteF hc h; tSR<|ARun.qv (q_eql J J) J<|rA J J<|rN<|ATodo.cond_d J (fun hc=>?_) (fun hc=>?_)
        · refine have h := iteT hc h; tS<|ATodo.regionM (id := 9) (A := [0,0,3,0,8,24,63,0,0,384,1023,2047]) 12 mixed J (by kernel_rfl) (by kernel_rfl)<|AM.qv (q_move J) J<|AM.qv (q_move J) J<|bndE h fun l10 e9 h=>AM.qv (t_slice_str J .none (.some _ _ _ J) J J e9) J<|AM.qv (q_move J) J<|AM.qv (q_conv_int J) J<|AM.qv (q_conv_is J) J<|bndE h fun q11 e10 h=>AM.qv (q_sadd e10 J J) J<|AM.qv (q_move J) J<|AM.qv (q_move J) J<|bndE h fun l12 e11 h=>AM.qv (t_slice_str J (.some _ _ _ J) .none J J e11) J<|bndE h fun q13 e12 h=>AM.qv (q_sadd e12 J J) J<|AM.qv (q_assign J) J<|AM.nil<|rN<|ATodo.ret<|?_
          obtain rfl := Option.some.inj h
          exact ImpX.here ⟨_,.cons (.tmp _ _ J) .nil,_,.cons .p0 .nil,⟨J,J⟩⟩
        · refine have h := iteF hc h; tK<|ATodo.blk<|tS<|ATodo.regionM (id := 10) (A := [0,0,3,0,0,16,56,127,255]) 9 mixed J (by kernel_rfl) (by kernel_rfl)<|AM.qv (q_move J) J<|AM.qv (q_move J) J<|bndE h fun l14 e13 h=>AM.qv (t_slice_str J .none (.some _ _ _ J) J J e13) J<|AM.qv (q_move J) J<|AM.qv (q_move J) J<|AM.qv (q_addw J J) J<|bndE h fun l15 e14 h=>AM.qv (t_slice_str J (.some _ _ _ J) .none J J e14) J<|bndE h fun q16 e15 h=>AM.qv (q_sadd e15 J J) J<|AM.qv (q_assign J) J<|AM.nil<|rN<|ATodo.ret<|?_
          obtain rfl := Option.some.inj h
          exact ImpX.here ⟨_,.cons (.tmp _ _ J) .nil,_,.cons .p0 .nil,⟨J,J⟩⟩

theorem Stream_RuleString_c {b_0 : Bk} {p0x0 : Fleetmake_Stream} {r : Str × Fleetmake_Stream} (h : Stream_RuleString p0x0 = some r) : ACall Tryz.prog 43 [.ptr b_0 0] [(b_0,.cells [lE0 p0x0.L,I p0x0.at_])] (T0 ([(b_0,.cells [lE0 r.2.L,I r.2.at_])]) (.str r.1)) := by
  unfold Stream_RuleString at h
  refine ACall.lessH ?_
  refine ACall.bodyN Tryz.func43 J Tryz.ntmps43 Tryz.results43 J J ?_
  refine tSR<|rA J J<|rN<|tSR<|rM J J<|bndE h fun v1 e1 h=>t_call1 J (Stream_Rules_c e1) (CoL.refl _) (.cons .p0 .nil) (fun _=>J) J fun b2=>rA J J<|rN<|tSR<|rA J J<|rN<|tS<|tSR<|rM J J<|bndE h fun v3 e2 h=>r_callpB J (Q_RulesFault_c e2) (.cons (CoB.arrT .p1) .nil) J J<|ARun.qv (q_eql J J) J<|rN<|ATodo.cut (fun σ'=>∃ (q4 : Str),Stream_RuleString_j1 v1 q4 = some r ∧ σ' = ⟨22,[(0,.ptr b_0 0),(4,.str q4)],[(b_0,.cells [lE0 v1.2.L,I v1.2.at_])]⟩) ?_ ?_
  · refine ATodo.cond_d J (fun hc=>?_) (fun hc=>?_)
    · exact have h := iteT hc h; tR<|rM J J<|bndE h fun v5 e3 h=>r_callpB J (Q_RuleLines_c e3) (.cons (CoB.arrT .p1) .nil) J J<|rA J J<|rN<|ATodo.stop<|ImpX.lq [0] ⟨v5,h,J⟩ J J
    · exact have h := iteF hc h; tK<|ATodo.stop<|ImpX.lq [0] ⟨([114,97,32,116,32,108,97,115,116,32,49,48,48,32,97,98,111,118,101,32,53,32,51,32,49,48,32,48,32,107,101,101,112,10] : Str),h,J⟩ J J
  · rintro σ' ⟨q4, h, rfl⟩
    unfold Stream_RuleString_j1 at h
    refine tS<|tSR<|rM J J<|n_buildSliceL (xs := ([(0 : Int),(0 : Int),(1 : Int),(2 : Int)]).map I) J J J J J J<|bndE h fun v6 e4 h=>t_call0 J (Stream_Pick_c e4) (CoL.refl _) (.cons .p0 .nil) J J<|rM J J<|rN<|ATodo.block<|ATodo.loopI (fun x : (List Int) × Int × Str × Int=>Stream_RuleString_b1 v6 x.1 x.2.1 x.2.2.1 x.2.2.2) (fun x σ'=>σ' = ⟨22,[(0,.ptr b_0 0),(4,.str x.2.2.1),(14,I v6.1),(15,I x.2.2.2)],[(b_0,.cells [lE0 x.1,I x.2.1])]⟩) h ?_ ?_
    · exact ImpX.lq [0] J J J
    · intro x z1 σ' J1 hmk h hJ1 hA1
      obtain ⟨l11, n12, q13, n14⟩ := x
      obtain rfl := hmk
      replace h : Stream_RuleString_b1 v6 l11 n12 q13 n14 = some z1 := h
      unfold Stream_RuleString_b1 at h
      refine tSR<|ARun.qv (q_lss J J) J<|rN<|tS<|ATodo.cond_d J (fun hc=>?_) (fun hc=>?_)
      · refine have h := iteT hc h; tK<|tS<|ATodo.block<|tR<|rM J J<|rM J J<|bndE h fun v15 e5 h=>t_call0 J (Stream_Changed_c e5) (CoL.refl _) (.cons .p0 .nil) J J<|rA J J<|rN<|ATodo.blk<|tR<|ARun.qv (q_addw J J) J<|rM J J<|rN<|ATodo.stop<|?_
        obtain rfl := Option.some.inj h
        exact hJ1 _ _ J<|ImpX.lq [0] J J J
      · refine have h := iteF hc h; ATodo.exit J<|have h := outL h hA1; tSR<|rM J J<|rA J J<|rN<|ATodo.ret<|?_
        obtain rfl := Option.some.inj h
        exact ImpX.here ⟨_,.cons (.tmp _ _ J) .nil,_,.cons .p0 .nil,⟨J,J⟩⟩

theorem base_Words_c {p0x0 : Str} {p1x0 : Int} {r : (List Str) × Bool} (h : base_Words p0x0 p1x0 = some r) : ACall Tryz.prog 182 [.str p0x0,I p1x0] [] (T1 (fun d_0=>[(d_0,aE1 r.1)]) (fun d_0=>.tup [.sl 1 d_0 0 r.1.length,.bool r.2])) := by
  unfold base_Words at h
  refine ACall.lessH ?_
  refine ACall.bodyN Tryz.func182 J Tryz.ntmps182 Tryz.results182 J J ?_
  refine tSR<|rA J J<|rA J J<|rN<|tSR<|rM J J<|bndE h fun v1 e1 h=>t_call1 J (strings_Split_c e1) (CoL.refl _) .nil (fun _=>J) J fun b2=>rA J J<|rN<|tS<|tSR<|rM J J<|ARun.qv (t_len_sl J) J<|rM J J<|ARun.qv (q_neq J J) J<|rN<|ATodo.cond_d J (fun hc=>?_) (fun hc=>?_)
  · refine have h := iteT hc h; tSR<|rA J J<|rA J J<|rN<|ATodo.ret<|?_
    obtain rfl := Option.some.inj h
    exact ImpX.arr (s := 4) 1 J fun b3=>ImpX.here ⟨_,.cons (.tmp _ _ J) (.cons (.tmp _ _ J) .nil),_,.cons .p0 .nil,⟨b3,J,J⟩⟩
  · refine have h := iteF hc h; tK<|tS<|tSR<|rM J J<|ARun.qv (t_len_sl J) J<|rM J J<|rN<|ATodo.block<|ATodo.loopI (fun x : Int=>base_Words_b1 v1 x) (fun x σ'=>σ' = ⟨25,[(6,.sl 1 b2 0 v1.length),(15,.sl 1 b2 0 v1.length),(16,I (v1.length : Int)),(17,I x)],[(b2,aE1 v1)]⟩) h ?_ ?_
    · exact ImpX.lq [0] J J J
    · intro n5 z1 σ' J1 hmk h hJ1 hA1
      obtain rfl := hmk
      replace h : base_Words_b1 v1 n5 = some z1 := h
      unfold base_Words_b1 at h
      refine tSR<|ARun.qv (q_lss J J) J<|rN<|tS<|ATodo.cond_d J (fun hc=>?_) (fun hc=>?_)
      · refine have h := iteT hc h; tK<|tS<|ATodo.block<|tSR<|bndE h fun v6 e2 h=>ARun.qv (t_index_sl J J J e2) J<|ARun.qv (t_load_aptr (g := AV.str) J J (.inl .p0) e2 J) J<|rA J J<|rN<|tSR<|rM J J<|ARun.qv (q_seq J J) J<|rN<|ATodo.cond_d J (fun hc=>?_) (fun hc=>?_)
        · refine have h := iteT hc h; tSR<|rA J J<|rA J J<|rN<|ATodo.ret<|have h := outL h hA1; ?_
          obtain rfl := Option.some.inj h
          exact ImpX.arr (s := 4) 1 J fun b7=>ImpX.here ⟨_,.cons (.tmp _ _ J) (.cons (.tmp _ _ J) .nil),_,.cons .p0 .nil,⟨b7,J,J⟩⟩
        · refine have h := iteF hc h; tK<|ATodo.blk<|tR<|ARun.qv (q_addw J J) J<|rM J J<|rN<|ATodo.stop<|?_
          obtain rfl := Option.some.inj h
          exact hJ1 _ _ J<|ImpX.lq [0] J J J
      · refine have h := iteF hc h; ATodo.exit J<|have h := outL h hA1; tSR<|rM J J<|rA J J<|rA J J<|rN<|ATodo.ret<|?_
        obtain rfl := Option.some.inj h
        exact ImpX.here ⟨_,.cons (.tmp _ _ J) (.cons (.tmp _ _ J) .nil),_,.cons .p0 .nil,⟨b2,J,J⟩⟩

theorem slices_Index_string_string_c [GI : GTab] {p0x0 : List Str} {p1x0 : Str} {r : Int} (h : slices_Index_string_string p0x0 p1x0 = some r) : Pu Tryz.prog 129 [lE1 p0x0,.str p1x0] (I r) := by
  unfold slices_Index_string_string at h
  refine ACall.bodyN Tryz.func129 J Tryz.ntmps129 Tryz.results129 J J ?_
  refine tSR<|rA J J<|rN<|tS<|tSR<|rM J J<|ARun.qv (t_len J) J<|rM J J<|rN<|ATodo.block<|ATodo.loopI (fun x : Int=>slices_Index_string_string_b1 p0x0 p1x0 x) (fun x σ'=>σ' = ⟨19,[(0,lE1 p0x0),(1,.str p1x0),(7,I (p0x0.length : Int)),(8,I x)],[]⟩) h ?_ ?_
  · exact ImpX.lq [] J J J
  · intro n2 z1 σ' J1 hmk h hJ1 hA1
    obtain rfl := hmk
    replace h : slices_Index_string_string_b1 p0x0 p1x0 n2 = some z1 := h
    unfold slices_Index_string_string_b1 at h
    refine tSR<|ARun.qv (q_lss J J) J<|rN<|tS<|ATodo.cond_d J (fun hc=>?_) (fun hc=>?_)
    · refine have h := iteT hc h; tK<|tS<|ATodo.block<|tSR<|rM J J<|rA J J<|rN<|tSR<|rM J J<|rM J J<|rM J J<|bndE h fun v3 e1 h=>ARun.qv (t_index J J J e1 J J) J<|ARun.qv (q_load_rptr J J J) J<|ARun.qv (q_seq J J) J<|rN<|ATodo.cond_d J (fun hc=>?_) (fun hc=>?_)
      · refine have h := iteT hc h; tSR<|rM J J<|rA J J<|rN<|ATodo.ret<|have h := outL h hA1; ?_
        obtain rfl := Option.some.inj h
        exact ImpX.here ⟨_,.cons (.tmp _ _ J) .nil,J⟩
      · refine have h := iteF hc h; tK<|ATodo.blk<|tR<|ARun.qv (q_addw J J) J<|rM J J<|rN<|ATodo.stop<|?_
        obtain rfl := Option.some.inj h
        exact hJ1 _ _ J<|ImpX.lq [] J J J
    · refine have h := iteF hc h; ATodo.exit J<|have h := outL h hA1; tSR<|rA J J<|rN<|ATodo.ret<|?_
      obtain rfl := Option.some.inj h
      exact ImpX.here ⟨_,.cons (.tmp _ _ J) .nil,J⟩

theorem base_Number_c {p0x0 : Str} {p1x0 : Int} {r : Int × Bool} (h : base_Number p0x0 p1x0 = some r) : Pu Tryz.prog 240 [.str p0x0,I p1x0] (.tup [I r.1,.bool r.2]) := by
  unfold base_Number at h
  refine ACall.bodyN Tryz.func240 J Tryz.ntmps240 Tryz.results240 J J ?_
  refine tSR<|rA J J<|rA J J<|rN<|tSR<|rM J J<|r_callp J (strings_TrimPrefix_c J) (CoL.refl _) J<|rA J J<|rN<|tS<|tS<|ATodo.cut (fun σ'=>∃ (c1 : Bool),base_Number_j1 p0x0 c1 = some r ∧ σ' = ⟨61,[(0,.str p0x0),(6,.str (Lib.trimPrefix p0x0 ([45] : Str))),(36,.bool c1)],[]⟩) ?_ ?_
  · refine tR<|rM J J<|ARun.qv (q_seq J J) J<|rM J J<|ARun.guard_df J J J (fun hc=>?_) (fun hc=>?_)
    · refine have h := iteF hc h; rM J J<|rY J J J<|ARun.qv (q_len_str J) J<|rY J J J<|rM J J<|rY J J J<|ARun.qv (q_gtr J J) J<|rE J J J<|rM J J<|ARun.guard_df J J J (fun hc=>?_) (fun hc=>?_)
      · refine have h := iteF hc h; rM J J<|rY J J J<|bndE h fun c2 e1 h=>ARun.qv (t_index_str J J e1) J<|rY J J J<|ARun.qv (q_eql J J) J<|rY J J J<|rM J J<|ARun.guard_dt J J J (fun hc=>?_) (fun hc=>?_)
        · rw [andTd hc] at h
          refine rM J J<|rY J J J<|ARun.qv (q_len_str J) J<|rY J J J<|ARun.qv (q_gtr J J) J<|rY J J J<|rM J J<|ARun.guard_df J J J (fun hc=>?_) (fun hc=>?_)
          · rw [orFd hc] at h
            exact rM J J<|rY J J J<|ARun.qv (q_len_str J) J<|rY J J J<|rM J J<|rY J J J<|ARun.qv (q_len_str J) J<|rY J J J<|ARun.qv (q_gtr J J) J<|rY J J J<|rE J J J<|rY J J J<|rT J J J<|rE J J J<|rN<|ATodo.stop<|ImpX.lq [] ⟨decide (((Lib.trimPrefix p0x0 ([45] : Str)).length : Int) < (p0x0.length : Int)),h,J⟩ J J
          · rw [orTd hc] at h
            exact rG J J J J<|rG J J J J<|rG J J J J<|rG J J J J<|rY J J J<|rT J J J<|rY J J J<|rT J J J<|rE J J J<|rN<|ATodo.stop<|ImpX.lq [] ⟨true,h,J⟩ J J
        · rw [andFd hc] at h
          exact rG J J J J<|rG J J J J<|rG J J J J<|ARun.guard_und J J J<|ARun.guard_und J J J<|ARun.guard_und J J J<|ARun.guard_und J J J<|ARun.guard_und J J J<|rG J J J J<|rY J J J<|rE J J J<|rE J J J<|rN<|ATodo.stop<|ImpX.lq [] ⟨false,h,J⟩ J J
      · exact have h := iteT hc h; rG J J J J<|rG J J J J<|rG J J J J<|ARun.guard_und J J J<|ARun.guard_und J J J<|ARun.guard_und J J J<|ARun.guard_und J J J<|ARun.guard_und J J J<|ARun.guard_und J J J<|ARun.guard_und J J J<|ARun.guard_und J J J<|ARun.guard_und J J J<|ARun.guard_und J J J<|rG J J J J<|rT J J J<|rN<|ATodo.stop<|ImpX.lq [] ⟨true,h,J⟩ J J
    · exact have h := iteT hc h; rG J J J J<|rG J J J J<|rG J J J J<|rT J J J<|rM J J<|rG J J J J<|rG J J J J<|rG J J J J<|rG J J J J<|ARun.guard_und J J J<|ARun.guard_und J J J<|ARun.guard_und J J J<|ARun.guard_und J J J<|ARun.guard_und J J J<|ARun.guard_und J J J<|ARun.guard_und J J J<|ARun.guard_und J J J<|ARun.guard_und J J J<|ARun.guard_und J J J<|rG J J J J<|rT J J J<|rN<|ATodo.stop<|ImpX.lq [] ⟨true,h,J⟩ J J
  · rintro σ' ⟨c1, h, rfl⟩
    unfold base_Number_j1 at h
    refine ATodo.cond J (fun hc=>?_) (fun hc=>?_)
    · refine have h := iteT hc h; tSR<|rA J J<|rA J J<|rN<|ATodo.ret<|?_
      obtain rfl := Option.some.inj h
      exact ImpX.here ⟨_,.cons (.tmp _ _ J) (.cons (.tmp _ _ J) .nil),J⟩
    · refine have h := iteFb hc h; tK<|tS<|tSR<|rM J J<|ARun.qv (q_len_str J) J<|rM J J<|rN<|ATodo.block<|ATodo.loopI (fun x : Int=>base_Number_b1 p0x0 x) (fun x σ'=>σ' = ⟨61,[(0,.str p0x0),(6,.str (Lib.trimPrefix p0x0 ([45] : Str))),(38,I ((Lib.trimPrefix p0x0 ([45] : Str)).length : Int)),(39,I x)],[]⟩) h ?_ ?_
      · exact ImpX.lq [] J J J
      · intro n4 z1 σ' J1 hmk h hJ1 hA1
        obtain rfl := hmk
        replace h : base_Number_b1 p0x0 n4 = some z1 := h
        unfold base_Number_b1 at h
        refine tSR<|ARun.qv (q_lss J J) J<|rN<|tS<|ATodo.cond_d J (fun hc=>?_) (fun hc=>?_)
        · refine have h := iteT hc h; tK<|tS<|ATodo.block<|tSR<|rM J J<|rA J J<|rN<|tS<|ATodo.cut (fun σ'=>∃ (c5 : Bool),base_Number_j2 n4 c5 = some z1 ∧ σ' = ⟨61,[(0,.str p0x0),(6,.str (Lib.trimPrefix p0x0 ([45] : Str))),(38,I ((Lib.trimPrefix p0x0 ([45] : Str)).length : Int)),(39,I n4),(51,.bool c5)],[]⟩) ?_ ?_
          · refine tR<|rM J J<|rM J J<|bndE h fun c6 e2 h=>ARun.qv (t_index_str J J e2) J<|ARun.qv (q_lss J J) J<|rM J J<|ARun.guard_df J J J (fun hc=>?_) (fun hc=>?_)
            · exact have h := iteF hc h; rM J J<|rY J J J<|rM J J<|rY J J J<|bndE h fun c7 e3 h=>ARun.qv (t_index_str J J e3) J<|rY J J J<|ARun.qv (q_gtr J J) J<|rE J J J<|rN<|ATodo.stop<|ImpX.lq [] ⟨decide ((57 : Int) < (c7.toNat : Int)),h,J⟩ J J
            · exact have h := iteT hc h; rG J J J J<|rG J J J J<|rG J J J J<|rT J J J<|rN<|ATodo.stop<|ImpX.lq [] ⟨true,h,J⟩ J J
          · rintro σ' ⟨c5, h, rfl⟩
            unfold base_Number_j2 at h
            refine ATodo.cond J (fun hc=>?_) (fun hc=>?_)
            · refine have h := iteT hc h; tSR<|rA J J<|rA J J<|rN<|ATodo.ret<|have h := outL h hA1; ?_
              obtain rfl := Option.some.inj h
              exact ImpX.here ⟨_,.cons (.tmp _ _ J) (.cons (.tmp _ _ J) .nil),J⟩
            · refine have h := iteFb hc h; tK<|ATodo.blk<|tR<|ARun.qv (q_addw J J) J<|rM J J<|rN<|ATodo.stop<|?_
              obtain rfl := Option.some.inj h
              exact hJ1 _ _ J<|ImpX.lq [] J J J
        · refine have h := iteF hc h; ATodo.exit J<|have h := outL h hA1; ?_
          unfold base_Number_k3 at h
          refine tSR<|rM J J<|bndE h fun v8 e4 h=>t_callE J (strconv_Atoi_c e4) (CoL.refl _) J fun e9 e5=>rM J J<|rX J J J<|rX J J J<|rA J J<|rA J J<|rN<|tS<|ATodo.regionM (id := 11) (A := [0,0,2,1,15]) 5 mixed J (by kernel_rfl) (by kernel_rfl)<|AM.qv (q_move J) J<|AM.qv (q_move J) J<|AM.qv (q_eqE e5 J) J<|AM.qv (q_assign J) J<|AM.qv (q_assign J) J<|AM.nil<|rN<|ATodo.ret<|?_
          obtain rfl := Option.some.inj h
          exact ImpX.here ⟨_,.cons (.tmp _ _ J) (.cons (.tmp _ _ J) .nil),J⟩

theorem base_Numbers_c {p0x0 : List Str} {p1x0 : Int} {r : (List Int) × Bool} (h : base_Numbers p0x0 p1x0 = some r) : ACall Tryz.prog 183 [lE1 p0x0,I p1x0] [] (T1 (fun d_0=>[(d_0,aE0 r.1)]) (fun d_0=>.tup [.sl 1 d_0 0 r.1.length,.bool r.2])) := by
  unfold base_Numbers at h
  refine ACall.lessH ?_
  refine ACall.bodyN Tryz.func183 J Tryz.ntmps183 Tryz.results183 J J ?_
  refine tSR<|rA J J<|rA J J<|rN<|tSR<|rA J J<|rN<|tS<|tSR<|rM J J<|ARun.qv (t_len J) J<|rM J J<|rN<|ATodo.block<|ATodo.loopI (fun x : (List Int) × Int=>base_Numbers_b1 p0x0 p1x0 x.1 x.2) (fun x σ'=>∃ (b4 : Bk),σ' = ⟨31,[(1,I p1x0),(6,.sl 1 b4 0 x.1.length),(11,lE1 p0x0),(12,I (p0x0.length : Int)),(13,I x.2)],[(b4,aE0 x.1)]⟩) h ?_ ?_
  · exact ImpX.arr (s := 6) 1 J fun b7=>ImpX.lq [0] ⟨b7,J⟩ J J
  · intro x z1 σ' J1 hmk h hJ1 hA1
    obtain ⟨l5, n6⟩ := x
    obtain ⟨b4, rfl⟩ := hmk
    replace h : base_Numbers_b1 p0x0 p1x0 l5 n6 = some z1 := h
    unfold base_Numbers_b1 at h
    refine tSR<|ARun.qv (q_lss J J) J<|rN<|tS<|ATodo.cond_d J (fun hc=>?_) (fun hc=>?_)
    · refine have h := iteT hc h; tK<|tS<|ATodo.block<|tSR<|bndE h fun v8 e1 h=>ARun.qv (t_index J J J e1 J J) J<|ARun.qv (q_load_rptr J J J) J<|rA J J<|rN<|tSR<|rM J J<|rM J J<|bndE h fun v9 e2 h=>r_callp J (base_Number_c e2) (CoL.refl _) J<|rM J J<|rX J J J<|rX J J J<|rA J J<|rA J J<|rN<|tS<|tSR<|rM J J<|ARun.qv (q_not J) J<|rN<|ATodo.cond J (fun hc=>?_) (fun hc=>?_)
      · refine have h := iteT hc h; tSR<|rA J J<|rA J J<|rN<|ATodo.ret<|have h := outL h hA1; ?_
        obtain rfl := Option.some.inj h
        exact ImpX.arr (s := 4) 1 J fun b10=>ImpX.here ⟨_,.cons (.tmp _ _ J) (.cons (.tmp _ _ J) .nil),_,.cons .p0 .nil,⟨b10,J,J⟩⟩
      · refine have h := iteFb hc h; tK<|tR<|rM J J<|rM J J<|n_buildSliceL (xs := ([v9.1] : List Int).map I) J J J J J J<|bndE h fun l11 e3 h=>t_append (g := I) J J J J J J J J (.list _) e3 (fun _=>.p0) J fun b12=>rA J J<|rN<|ATodo.blk<|tR<|ARun.qv (q_addw J J) J<|rM J J<|rN<|ATodo.stop<|?_
        obtain rfl := Option.some.inj h
        exact hJ1 _ _ J<|ImpX.lq [0] ⟨b12,J⟩ J J
    · refine have h := iteF hc h; ATodo.exit J<|have h := outL h hA1; tSR<|rM J J<|rA J J<|rA J J<|rN<|ATodo.ret<|?_
      obtain rfl := Option.some.inj h
      exact ImpX.here ⟨_,.cons (.tmp _ _ J) (.cons (.tmp _ _ J) .nil),_,.cons .p0 .nil,⟨b4,J,J⟩⟩

theorem rule_readRule_c {p0x0 : Str} {r : Rule × Bool} (h : rule_readRule p0x0 = some r) : Pu Tryz.prog 124 [.str p0x0] (.tup [Rule.av r.1,.bool r.2]) := by
  unfold rule_readRule at h
  refine ACall.bodyN Tryz.func124 J Tryz.ntmps124 Tryz.results124 J J ?_
  refine tSR<|n_alloc J J J J fun b1=>rA J J<|rN<|tSR<|rM J J<|bndE h fun v2 e1 h=>t_call1 J (base_Words_c e1) (CoL.refl _) .nil (fun _=>J) J fun b3=>rM J J<|rX J J J<|rX J J J<|rA J J<|rA J J<|rN<|tS<|tSR<|rM J J<|ARun.qv (q_not J) J<|rN<|ATodo.cond J (fun hc=>?_) (fun hc=>?_)
  · refine have h := iteT hc h; tSR<|ARun.qv (n_build J J J J J) J<|n_store_ptr J J J J .p1 J J<|rA J J<|rN<|ATodo.ret<|?_
    obtain rfl := Option.some.inj h
    exact ImpX.here ⟨_,.cons (.all _ _ _ _ _ _ J .p1 TUnder.h TInfo.h J J) (.cons (.tmp _ _ J) .nil),J⟩
  · refine have h := iteFb hc h; tK<|tS<|ATodo.regionM (id := 4) (A := [0,0,2,6,15,31,0,64,192,511,1023,2047]) 12 mixed J (by kernel_rfl) (by kernel_rfl)<|AM.callp J (rule_aggregates_c J) (CoL.refl _) J<|AM.qv (q_move J) J<|bndE h fun v4 e2 h=>AM.qv (t_index_sl J J J e2) J<|AM.qv (t_load_aptr (g := AV.str) J J (.inl .p0) e2 J) J<|bndE h fun v5 e3 h=>AM.callp J (slices_Index_string_string_c e3) (CoL.refl _) J<|AM.callp J (rule_empties_c J) (CoL.refl _) J<|AM.qv (q_move J) J<|bndE h fun v6 e4 h=>AM.qv (t_index_sl J J J e4) J<|AM.qv (t_load_aptr (g := AV.str) J J (.inl .p0) e4 J) J<|bndE h fun v7 e5 h=>AM.callp J (slices_Index_string_string_c e5) (CoL.refl _) J<|AM.qv (q_assign J) J<|AM.qv (q_assign J) J<|AM.nil<|rN<|tS<|bndE h fun v8 e6 h=>bndE h fun v9 e7 h=>bndE h fun v10 e8 h=>bndE h fun v11 e9 h=>bndE h fun v12 e10 h=>bndE h fun v13 e11 h=>ATodo.regionT (id := 5) (A := [0,1,3,0,8,24,0,64,192,0,512,1536,0,4096,12288,32767,65535,131071,262143,262143,524287,2097151]) (H0 := []) (HH := fun β=>[((β 20),aE0 v13.1),(b3,aE1 v2.1),(b1,.cells [.str [],.str [],I (0 : Int),I (0 : Int),.bool false,I (0 : Int),I (0 : Int),I (0 : Int),I (0 : Int),I (0 : Int)])]) 21 mixed J (by kernel_rfl) (by kernel_rfl) [⟨some 16,some 17,[],fun b=>(b,aE0 v13.1),none,[]⟩,⟨some 17,some 18,[],fun b=>(b,aE0 v13.1),none,[]⟩,⟨some 18,some 20,[],fun b=>(b,aE0 v13.1),none,[]⟩,⟨some 20,none,[],fun b=>(b,aE0 v13.1),none,[]⟩] [16,17,18,20] J (by kernel_rfl) J .nil (fun _=>J)<|AT.am 16 J J<|AM.qv (q_move J) J<|AM.qv (t_index_sl J J J e6) J<|AM.qv (t_load_aptr (g := AV.str) J J (.inl .p0) e6 J) J<|AM.qv (q_move J) J<|AM.qv (t_index_sl J J J e7) J<|AM.qv (t_load_aptr (g := AV.str) J J (.inl .p0) e7 J) J<|AM.qv (q_move J) J<|AM.qv (t_index_sl J J J e8) J<|AM.qv (t_load_aptr (g := AV.str) J J (.inl .p0) e8 J) J<|AM.qv (q_move J) J<|AM.qv (t_index_sl J J J e9) J<|AM.qv (t_load_aptr (g := AV.str) J J (.inl .p0) e9 J) J<|AM.qv (q_move J) J<|AM.qv (t_index_sl J J J e10) J<|AM.qv (t_load_aptr (g := AV.str) J J (.inl .p0) e10 J) J<|AM.buildSliceL (xs := ([v8,v9,v10,v11,v12] : List Str).map AV.str) J J J J J J<|AM.nil<|AT.runD (V := fun b=>.tup [.sl 1 b 0 v13.1.length,.bool v13.2]) (Ti := []) (Pi := fun b=>[(b,aE0 v13.1)]) (fun _=>J) (fun _=>J) (fun _ _=>J) J (fun _=>J) J J J ?_ ?_
    · exact t_call1 J (base_Numbers_c e11) (CoL.refl _) .nil (fun _=>J) J fun b14=>ARun.nil ⟨b14,_,J,J⟩
    refine AT.runE (V := fun b=>.tup [.sl 1 b 0 v13.1.length,.bool v13.2]) (Ti := fun β=>[(β 16,aE0 v13.1)]) (Pi := fun b=>[(b,aE0 v13.1)]) (fun _=>J) (fun _=>J) (fun _ _=>J) (fun _=>J) (fun _=>J) J J J (fun β=>?_) ?_
    · generalize β 16 = b14
      exact rM J J<|ARun.nil ⟨b14,_,J,J⟩
    refine AT.runE (V := fun b=>.sl 1 b 0 v13.1.length) (Ti := fun β=>[(β 17,aE0 v13.1)]) (Pi := fun b=>[(b,aE0 v13.1)]) (fun _=>J) (fun _=>J) (fun _ _=>J) (fun _=>J) (fun _=>J) J J J (fun β=>?_) ?_
    · generalize β 17 = b15
      exact rX J J J<|ARun.nil ⟨b15,_,J,J⟩
    refine AT.stE (fun _=>J) (fun _=>J) (fun _=>J) (fun β=>q_extract J J) J<|AT.runE (V := fun b=>.sl 1 b 0 v13.1.length) (Ti := fun β=>[(β 18,aE0 v13.1)]) (Pi := fun b=>[(b,aE0 v13.1)]) (fun _=>J) (fun _=>J) (fun _ _=>J) (fun _=>J) (fun _=>J) J J J (fun β=>?_) ?_
    · generalize β 18 = b16
      exact rA J J<|ARun.nil ⟨b16,_,J,J⟩
    refine AT.nilN (fun _=>J) fun β=>?_
    generalize β 16 = b14
    generalize β 17 = b15
    generalize β 18 = b16
    generalize β 20 = b17
    clear β
    refine rA J J<|rN<|tS<|tS<|ATodo.cut (fun σ'=>∃ (c18 : Bool),rule_readRule_j1 v2 v5 v7 v13 c18 = some r ∧ σ' = ⟨102,[(2,.ptr b1 0),(4,.sl 1 b3 0 v2.1.length),(6,I v5),(7,I v7),(8,.sl 1 b17 0 v13.1.length),(70,.bool c18)],[(b1,.cells [.str [],.str [],I (0 : Int),I (0 : Int),.bool false,I (0 : Int),I (0 : Int),I (0 : Int),I (0 : Int),I (0 : Int)]),(b3,aE1 v2.1),(b17,aE0 v13.1)]⟩) ?_ ?_
    · refine ATodo.regionM (id := 6) (A := [0,1,3,7,15,31,63,127,255,511,1023,2047,4095,8191,2047,32767,65535,131071,262143,524287,131071,2097151,4194303,8388607]) 24 mixed J (by kernel_rfl) (by kernel_rfl)<|AM.qv (q_move J) J<|AM.qv (q_not J) J<|AM.qv (q_move J) J<|AM.guard J J J (fun hc=>?_) (fun hc=>?_)
      · refine have h := iteFb hc h; AM.qv (q_move J) J<|AM.guard_yes J J J<|AM.qv (q_lss J J) J<|AM.qv (q_pick_f J J) J<|AM.qv (q_move J) J<|AM.guard_df J J J (fun hc=>?_) (fun hc=>?_)
        · refine have h := iteF hc h; AM.qv (q_move J) J<|AM.guard_yes J J J<|AM.qv (q_lss J J) J<|AM.qv (q_pick_f J J) J<|AM.qv (q_move J) J<|AM.guard_df J J J (fun hc=>?_) (fun hc=>?_)
          · refine have h := iteF hc h; AM.qv (q_move J) J<|AM.guard_yes J J J<|bndE h fun v19 e12 h=>AM.qv (t_index_sl J J J e12) J<|AM.guard_yes J J J<|AM.qv (t_load_aptr (g := AV.str) J J (.inl .p1) e12 J) J<|AM.guard_yes J J J<|AM.callp J (rule_side_c J) (CoL.refl _) J<|AM.guard_yes J J J<|AM.qv (q_sne J J) J<|AM.guard_yes J J J<|AM.qv (q_move J) J<|AM.guard_dt J J J (fun hc=>?_) (fun hc=>?_)
            · exact have h := iteT hc h; AM.qv (q_move J) J<|AM.guard_yes J J J<|bndE h fun v20 e13 h=>AM.qv (t_index_sl J J J e13) J<|AM.guard_yes J J J<|AM.qv (t_load_aptr (g := AV.str) J J (.inl .p1) e13 J) J<|AM.guard_yes J J J<|AM.callp J (rule_side_c J) (CoL.refl _) J<|AM.guard_yes J J J<|AM.qv (q_sne J J) J<|AM.guard_yes J J J<|AM.qv (q_pick_t J J) J<|AM.qv (q_pick_f J J) J<|AM.nil<|rN<|ATodo.stop<|ImpX.lq [2,1,0] ⟨decide (v20 ≠ (rule_side false)),h,J⟩ J J
            · exact have h := iteF hc h; AM.guard_no J J J J<|AM.guard_no J J J J<|AM.guard_no J J J J<|AM.guard_no J J J J<|AM.guard_yes J J J<|AM.qv (q_pick_f J J) J<|AM.qv (q_pick_f J J) J<|AM.nil<|rN<|ATodo.stop<|ImpX.lq [2,1,0] ⟨false,h,J⟩ J J
          · exact have h := iteT hc h; AM.guard_no J J J J<|AM.guard_no J J J J<|AM.guard_no J J J J<|AM.guard_no J J J J<|AM.guard_no J J J J<|AM.guard_und J J J<|AM.guard_und J J J<|AM.guard_und J J J<|AM.guard_und J J J<|AM.guard_und J J J<|AM.guard_no J J J J<|AM.qv (q_pick_t J J) J<|AM.nil<|rN<|ATodo.stop<|ImpX.lq [2,1,0] ⟨true,h,J⟩ J J
        · exact have h := iteT hc h; AM.guard_no J J J J<|AM.qv (q_pick_t J J) J<|AM.qv (q_move J) J<|AM.guard_no J J J J<|AM.guard_no J J J J<|AM.guard_no J J J J<|AM.guard_no J J J J<|AM.guard_no J J J J<|AM.guard_no J J J J<|AM.guard_und J J J<|AM.guard_und J J J<|AM.guard_und J J J<|AM.guard_und J J J<|AM.guard_und J J J<|AM.guard_no J J J J<|AM.qv (q_pick_t J J) J<|AM.nil<|rN<|ATodo.stop<|ImpX.lq [2,1,0] ⟨true,h,J⟩ J J
      · exact have h := iteT hc h; AM.guard_no J J J J<|AM.qv (q_pick_t J J) J<|AM.qv (q_move J) J<|AM.guard_no J J J J<|AM.guard_no J J J J<|AM.qv (q_pick_t J J) J<|AM.qv (q_move J) J<|AM.guard_no J J J J<|AM.guard_no J J J J<|AM.guard_no J J J J<|AM.guard_no J J J J<|AM.guard_no J J J J<|AM.guard_no J J J J<|AM.guard_und J J J<|AM.guard_und J J J<|AM.guard_und J J J<|AM.guard_und J J J<|AM.guard_und J J J<|AM.guard_no J J J J<|AM.qv (q_pick_t J J) J<|AM.nil<|rN<|ATodo.stop<|ImpX.lq [2,1,0] ⟨true,h,J⟩ J J
    · rintro σ' ⟨c18, h, rfl⟩
      unfold rule_readRule_j1 at h
      refine ATodo.cond J (fun hc=>?_) (fun hc=>?_)
      · refine have h := iteT hc h; tSR<|ARun.qv (n_build J J J J J) J<|n_store_ptr J J J J .p0 J J<|rA J J<|rN<|ATodo.ret<|?_
        obtain rfl := Option.some.inj h
        exact ImpX.here ⟨_,.cons (.all _ _ _ _ _ _ J .p0 TUnder.h TInfo.h J J) (.cons (.tmp _ _ J) .nil),J⟩
      · refine have h := iteFb hc h; tK<|tS<|ATodo.regionM (id := 8) (A := [0,1,3,0,8,24,0,64,0,256,768,0,2048,6144,0,30720,0,65536,196608,0,524288,1572864,0,4194304,12582912,0,33554432,100663296,0,536870911,1073741823,2147483647]) 30 mixed J (by kernel_rfl) (by kernel_rfl)<|AM.qv (q_move J) J<|bndE h fun v21 e14 h=>AM.qv (t_index_sl J J J e14) J<|AM.qv (t_load_aptr (g := AV.str) J J (.inl .p1) e14 J) J<|AM.qv (q_move J) J<|bndE h fun v22 e15 h=>AM.qv (t_index_sl J J J e15) J<|AM.qv (t_load_aptr (g := AV.str) J J (.inl .p1) e15 J) J<|AM.qv (q_move J) J<|AM.qv (q_addw J J) J<|AM.qv (q_move J) J<|bndE h fun v23 e16 h=>AM.qv (t_index_sl J J J e16) J<|AM.qv (t_load_aptr (g := I) J J (.inl .p2) e16 J) J<|AM.qv (q_move J) J<|bndE h fun v24 e17 h=>AM.qv (t_index_sl J J J e17) J<|AM.qv (t_load_aptr (g := AV.str) J J (.inl .p1) e17 J) J<|AM.callp J (rule_side_c J) (CoL.refl _) J<|AM.qv (q_seq J J) J<|AM.qv (q_move J) J<|bndE h fun v25 e18 h=>AM.qv (t_index_sl J J J e18) J<|AM.qv (t_load_aptr (g := I) J J (.inl .p2) e18 J) J<|AM.qv (q_move J) J<|bndE h fun v26 e19 h=>AM.qv (t_index_sl J J J e19) J<|AM.qv (t_load_aptr (g := I) J J (.inl .p2) e19 J) J<|AM.qv (q_move J) J<|bndE h fun v27 e20 h=>AM.qv (t_index_sl J J J e20) J<|AM.qv (t_load_aptr (g := I) J J (.inl .p2) e20 J) J<|AM.qv (q_move J) J<|bndE h fun v28 e21 h=>AM.qv (t_index_sl J J J e21) J<|AM.qv (t_load_aptr (g := I) J J (.inl .p2) e21 J) J<|AM.qv (q_move J) J<|AM.qv (n_build J J J J J) J<|AM.nil<|n_store_ptr J J J J .p0 J J<|rA J J<|rN<|ATodo.ret<|?_
        obtain rfl := Option.some.inj h
        exact ImpX.here ⟨_,.cons (.all _ _ _ _ _ _ J .p0 TUnder.h TInfo.h J J) (.cons (.tmp _ _ J) .nil),J⟩

theorem rule_Read_1x_c {b_1 : Bk} {b_1x0 : Bk} {p0x0 : Str} {p1x0 : List Rule} {r : Bool × (List Rule)} (h : rule_Read_1x p0x0 p1x0 = some r) : ACall Tryz.prog 123 [.str p0x0,.ptr b_1 0] [(b_1,.cells [.sl 10 b_1x0 0 p1x0.length]),(b_1x0,aE2 p1x0)] (T1 (fun c_1x0=>[(b_1,.cells [.sl 10 c_1x0 0 r.2.length]),(c_1x0,aE2 r.2)]) (fun c_1x0=>.bool r.1)) := by
  unfold rule_Read_1x at h
  refine ACall.lessH ?_
  refine ACall.bodyN Tryz.func123 J Tryz.ntmps123 Tryz.results123 J J ?_
  refine tSR<|rA J J<|rN<|tSR<|rM J J<|bndE h fun v1 e1 h=>r_callp J (rule_readRule_c e1) (CoL.refl _) J<|rM J J<|rX J J J<|rX J J J<|n_alloc J J J J fun b2=>n_store_ptr J J J J .p0 J J<|rA J J<|rN<|tSR<|rL J J .p1 J J<|ARun.qv (q_load_ptr_all J J .p0 J) J<|n_buildSliceL (xs := ([v1.1] : List Rule).map Rule.av) J J J J J J<|bndE h fun l3 e2 h=>t_append (g := Rule.av) J J J J J J J J (.list _) e2 (fun _=>.p2) J fun b4=>n_store_ptr J J J J .p1 J J<|rN<|tSR<|rM J J<|rA J J<|rN<|ATodo.ret<|?_
  obtain rfl := Option.some.inj h
  exact ImpX.here ⟨_,.cons (.tmp _ _ J) .nil,_,.cons .p1 (.cons .p1 .nil),⟨b4,J,J⟩⟩

theorem internal_stringslite_HasSuffix_c [GI : GTab] {p0x0 : Str} {p1x0 : Str} {r : Bool} (h : internal_stringslite_HasSuffix p0x0 p1x0 = some r) : Pu Tryz.prog 315 [.str p0x0,.str p1x0] (.bool r) := by
  unfold internal_stringslite_HasSuffix at h
  refine ACall.bodyN Tryz.func315 J Tryz.ntmps315 Tryz.results315 J J ?_
  refine tSR<|rA J J<|rN<|tS<|ATodo.cut (fun σ'=>∃ (c1 : Bool),internal_stringslite_HasSuffix_j1 c1 = some r ∧ σ' = ⟨21,[(4,.bool c1)],[]⟩) ?_ ?_
  · refine tR<|rM J J<|ARun.qv (q_len_str J) J<|rM J J<|ARun.qv (q_len_str J) J<|ARun.qv (q_geq J J) J<|rM J J<|ARun.guard_dt J J J (fun hc=>?_) (fun hc=>?_)
    · exact have h := iteT hc h; rM J J<|rY J J J<|rM J J<|rY J J J<|ARun.qv (q_len_str J) J<|rY J J J<|rM J J<|rY J J J<|ARun.qv (q_len_str J) J<|rY J J J<|ARun.qv (q_subw J J) J<|rY J J J<|bndE h fun l2 e1 h=>ARun.qv (t_slice_str J (.some _ _ _ J) .none J J e1) J<|rY J J J<|rM J J<|rY J J J<|ARun.qv (q_seq J J) J<|rT J J J<|rA J J<|rN<|ATodo.stop<|ImpX.lq [] ⟨decide (l2 = p1x0),h,J⟩ J J
    · exact have h := iteF hc h; rG J J J J<|rG J J J J<|rG J J J J<|rG J J J J<|rG J J J J<|rG J J J J<|rG J J J J<|rG J J J J<|rE J J J<|rA J J<|rN<|ATodo.stop<|ImpX.lq [] ⟨false,h,J⟩ J J
  · rintro σ' ⟨c1, h, rfl⟩
    unfold internal_stringslite_HasSuffix_j1 at h
    refine ATodo.ret<|?_
    obtain rfl := Option.some.inj h
    exact ImpX.here ⟨_,.cons (.tmp _ _ J) .nil,J⟩

theorem internal_stringslite_CutSuffix_c [GI : GTab] {p0x0 : Str} {p1x0 : Str} {r : Str × Bool} (h : internal_stringslite_CutSuffix p0x0 p1x0 = some r) : Pu Tryz.prog 273 [.str p0x0,.str p1x0] (.tup [.str r.1,.bool r.2]) := by
  unfold internal_stringslite_CutSuffix at h
  refine ACall.bodyN Tryz.func273 J Tryz.ntmps273 Tryz.results273 J J ?_
  refine tSR<|rA J J<|rA J J<|rN<|tS<|tSR<|rM J J<|rM J J<|bndE h fun v1 e1 h=>r_callp J (internal_stringslite_HasSuffix_c e1) (CoL.refl _) J<|ARun.qv (q_not J) J<|rN<|ATodo.cond J (fun hc=>?_) (fun hc=>?_)
  · refine have h := iteT hc h; tSR<|rM J J<|rA J J<|rA J J<|rN<|ATodo.ret<|?_
    obtain rfl := Option.some.inj h
    exact ImpX.here ⟨_,.cons (.tmp _ _ J) (.cons (.tmp _ _ J) .nil),J⟩
  · refine have h := iteFb hc h; tK<|tSR<|rM J J<|rM J J<|ARun.qv (q_len_str J) J<|rM J J<|ARun.qv (q_len_str J) J<|ARun.qv (q_subw J J) J<|bndE h fun l2 e2 h=>ARun.qv (t_slice_str J .none (.some _ _ _ J) J J e2) J<|rA J J<|rA J J<|rN<|ATodo.ret<|?_
    obtain rfl := Option.some.inj h
    exact ImpX.here ⟨_,.cons (.tmp _ _ J) (.cons (.tmp _ _ J) .nil),J⟩

theorem strings_CutSuffix_c [GI : GTab] {p0x0 : Str} {p1x0 : Str} {r : Str × Bool} (h : strings_CutSuffix p0x0 p1x0 = some r) : Pu Tryz.prog 239 [.str p0x0,.str p1x0] (.tup [.str r.1,.bool r.2]) := by
  unfold strings_CutSuffix at h
  refine ACall.bodyN Tryz.func239 J Tryz.ntmps239 Tryz.results239 J J ?_
  refine tSR<|rA J J<|rA J J<|rN<|tSR<|rM J J<|rM J J<|bndE h fun v1 e1 h=>r_callp J (internal_stringslite_CutSuffix_c e1) (CoL.refl _) J<|rX J J J<|rX J J J<|rA J J<|rA J J<|rN<|ATodo.ret<|?_
  obtain rfl := Option.some.inj h
  exact ImpX.here ⟨_,.cons (.tmp _ _ J) (.cons (.tmp _ _ J) .nil),J⟩

theorem base_Lines_c {p0x0 : Str} {r : (List Str) × Bool} (h : base_Lines p0x0 = some r) : ACall Tryz.prog 181 [.str p0x0] [] (T1 (fun d_0=>[(d_0,aE1 r.1)]) (fun d_0=>.tup [.sl 1 d_0 0 r.1.length,.bool r.2])) := by
  unfold base_Lines at h
  refine ACall.lessH ?_
  refine ACall.bodyN Tryz.func181 J Tryz.ntmps181 Tryz.results181 J J ?_
  refine tSR<|rA J J<|rA J J<|rN<|tS<|tSR<|rM J J<|ARun.qv (q_seq J J) J<|rN<|ATodo.cond_d J (fun hc=>?_) (fun hc=>?_)
  · refine have h := iteT hc h; tSR<|rA J J<|rA J J<|rN<|ATodo.ret<|?_
    obtain rfl := Option.some.inj h
    exact ImpX.arr (s := 2) 1 J fun b1=>ImpX.here ⟨_,.cons (.tmp _ _ J) (.cons (.tmp _ _ J) .nil),_,.cons .p0 .nil,⟨b1,J,J⟩⟩
  · refine have h := iteF hc h; tK<|tSR<|rM J J<|bndE h fun v2 e1 h=>r_callp J (strings_CutSuffix_c e1) (CoL.refl _) J<|rM J J<|rX J J J<|rX J J J<|rA J J<|rA J J<|rN<|tSR<|rM J J<|bndE h fun v3 e2 h=>t_call1 J (strings_Split_c e2) (CoL.refl _) .nil (fun _=>J) J fun b4=>rM J J<|rA J J<|rA J J<|rN<|ATodo.ret<|?_
    obtain rfl := Option.some.inj h
    exact ImpX.here ⟨_,.cons (.tmp _ _ J) (.cons (.tmp _ _ J) .nil),_,.cons .p0 .nil,⟨b4,J,J⟩⟩

theorem base_Each_f1x_rule_Read_1x_c {b_2 : Bk} {b_2x0 : Bk} {p0x0 : Str} {p2x0 : List Rule} {r : Int × Bool × (List Rule)} (h : base_Each_f1x_rule_Read_1x p0x0 p2x0 = some r) : ACall Tryz.prog 122 [.str p0x0,.func (.func 123) [.ptr b_2 0]] [(b_2,.cells [.sl 10 b_2x0 0 p2x0.length]),(b_2x0,aE2 p2x0)] (T1 (fun c_2x0=>[(b_2,.cells [.sl 10 c_2x0 0 r.2.2.length]),(c_2x0,aE2 r.2.2)]) (fun c_2x0=>.tup [I r.1,.bool r.2.1])) := by
  unfold base_Each_f1x_rule_Read_1x at h
  refine ACall.lessH ?_
  refine ACall.bodyN Tryz.func122 J Tryz.ntmps122 Tryz.results122 J J ?_
  refine tSR<|rA J J<|rA J J<|rN<|tSR<|rM J J<|bndE h fun v1 e1 h=>t_call1 J (base_Lines_c e1) (CoL.refl _) .nil (fun _=>J) J fun b2=>rM J J<|rX J J J<|rX J J J<|rA J J<|rA J J<|rN<|tS<|tSR<|rM J J<|ARun.qv (t_len_sl J) J<|rM J J<|rN<|ATodo.block<|ATodo.loopI (fun x : (List Rule) × Int=>base_Each_f1x_rule_Read_1x_b1 v1 x.1 x.2) (fun x σ'=>∃ (b6 : Bk),σ' = ⟨39,[(1,.func (.func 123) [.ptr b_2 0]),(6,.sl 1 b2 0 v1.1.length),(7,.bool v1.2),(15,.sl 1 b2 0 v1.1.length),(16,I (v1.1.length : Int)),(17,I x.2)],[(b_2,.cells [.sl 10 b6 0 x.1.length]),(b6,aE2 x.1),(b2,aE1 v1.1)]⟩) h ?_ ?_
  · exact ImpX.lq [1,1,0] ⟨b_2x0,J⟩ J J
  · intro x z1 σ' J1 hmk h hJ1 hA1
    obtain ⟨l7, n8⟩ := x
    obtain ⟨b6, rfl⟩ := hmk
    replace h : base_Each_f1x_rule_Read_1x_b1 v1 l7 n8 = some z1 := h
    unfold base_Each_f1x_rule_Read_1x_b1 at h
    refine tSR<|ARun.qv (q_lss J J) J<|rN<|tS<|ATodo.cond_d J (fun hc=>?_) (fun hc=>?_)
    · refine have h := iteT hc h; tK<|tS<|ATodo.block<|tSR<|rM J J<|bndE h fun v9 e2 h=>ARun.qv (t_index_sl J J J e2) J<|ARun.qv (t_load_aptr (g := AV.str) J J (.inl .p2) e2 J) J<|rA J J<|rA J J<|rN<|tS<|ATodo.cut (fun σ'=>∃ (b10 : Bk) (l11 : List Rule) (c12 : Bool),base_Each_f1x_rule_Read_1x_j1 n8 l11 c12 = some z1 ∧ σ' = ⟨39,[(1,.func (.func 123) [.ptr b_2 0]),(6,.sl 1 b2 0 v1.1.length),(7,.bool v1.2),(8,I n8),(15,.sl 1 b2 0 v1.1.length),(16,I (v1.1.length : Int)),(17,I n8),(36,.bool c12)],[(b_2,.cells [.sl 10 b10 0 l11.length]),(b10,aE2 l11),(b2,aE1 v1.1)]⟩) ?_ ?_
      · refine tR<|rM J J<|ARun.qv (q_not J) J<|rM J J<|ARun.guard J J J (fun hc=>?_) (fun hc=>?_)
        · refine have h := iteT hc h; rM J J<|rY J J J<|rM J J<|rY J J J<|ARun.qv (t_len_sl J) J<|rY J J J<|ARun.qv (q_subw J J) J<|rY J J J<|ARun.qv (q_eql J J) J<|rT J J J<|rM J J<|ARun.guard_df J J J (fun hc=>?_) (fun hc=>?_)
          · exact have h := iteF hc h; rM J J<|rY J J J<|rM J J<|rY J J J<|bndE h fun v13 e3 h=>t_callv1 J J J (rule_Read_1x_c e3) (CoL.refl _) (.cons .p0 (.cons .p0 .nil)) (fun _=>J) J fun b14=>rY J J J<|ARun.qv (q_not J) J<|rE J J J<|rN<|ATodo.stop<|ImpX.lq [0,0,0] ⟨b14,v13.2,!v13.1,h,J⟩ J J
          · exact have h := iteT hc h; rG J J J J<|rG J J J J<|rG J J J J<|rT J J J<|rN<|ATodo.stop<|ImpX.lq [0,0,0] ⟨b6,l7,true,h,J⟩ J J
        · exact have h := iteFb hc h; rG J J J J<|rG J J J J<|rG J J J J<|rG J J J J<|rE J J J<|rM J J<|rY J J J<|rM J J<|rY J J J<|rM J J<|rY J J J<|bndE h fun v15 e4 h=>t_callv1 J J J (rule_Read_1x_c e4) (CoL.refl _) (.cons .p0 (.cons .p0 .nil)) (fun _=>J) J fun b16=>rY J J J<|ARun.qv (q_not J) J<|rE J J J<|rN<|ATodo.stop<|ImpX.lq [0,0,0] ⟨b16,v15.2,!v15.1,h,J⟩ J J
      · rintro σ' ⟨b10, l11, c12, h, rfl⟩
        unfold base_Each_f1x_rule_Read_1x_j1 at h
        refine ATodo.cond J (fun hc=>?_) (fun hc=>?_)
        · refine have h := iteT hc h; tSR<|rM J J<|rA J J<|rA J J<|rN<|ATodo.ret<|have h := outL h hA1; ?_
          obtain rfl := Option.some.inj h
          exact ImpX.here ⟨_,.cons (.tmp _ _ J) (.cons (.tmp _ _ J) .nil),_,.cons .p0 (.cons .p0 .nil),⟨b10,J,J⟩⟩
        · refine have h := iteFb hc h; tK<|ATodo.blk<|tR<|ARun.qv (q_addw J J) J<|rM J J<|rN<|ATodo.stop<|?_
          obtain rfl := Option.some.inj h
          exact hJ1 _ _ J<|ImpX.lq [0,0,0] ⟨b10,J⟩ J J
    · refine have h := iteF hc h; ATodo.exit J<|have h := outL h hA1; tSR<|rA J J<|rA J J<|rN<|ATodo.ret<|?_
      obtain rfl := Option.some.inj h
      exact ImpX.here ⟨_,.cons (.tmp _ _ J) (.cons (.tmp _ _ J) .nil),_,.cons .p0 (.cons .p0 .nil),⟨b6,J,J⟩⟩

theorem rule_Read_c {p0x0 : Str} {r : (List Rule) × Int × Int} (h : rule_Read p0x0 = some r) : ACall Tryz.prog 44 [.str p0x0] [] (T1 (fun d_0=>[(d_0,aE2 r.1)]) (fun d_0=>.tup [.sl 10 d_0 0 r.1.length,I r.2.1,I r.2.2])) := by
  unfold rule_Read at h
  refine ACall.lessH ?_
  refine ACall.bodyN Tryz.func44 J Tryz.ntmps44 Tryz.results44 J J ?_
  refine tSR<|rA J J<|rA J J<|rA J J<|rN<|tS<|tSR<|rM J J<|ARun.qv (q_len_str J) J<|ARun.qv (q_gtr J J) J<|rN<|ATodo.cond_d J (fun hc=>?_) (fun hc=>?_)
  · refine have h := iteT hc h; tSR<|rA J J<|rA J J<|rA J J<|rN<|ATodo.ret<|?_
    obtain rfl := Option.some.inj h
    exact ImpX.arr (s := 2) 10 J fun b1=>ImpX.here ⟨_,.cons (.tmp _ _ J) (.cons (.tmp _ _ J) (.cons (.tmp _ _ J) .nil)),_,.cons .p0 .nil,⟨b1,J,J⟩⟩
  · refine have h := iteF hc h; tK<|tSR<|n_alloc J J J J fun b2=>rN<|tSR<|rM J J<|ARun.qv (q_makeFunc J) J<|bndE h fun v3 e1 h=>ARun.ghost<|ImpX.arrBox (j := 0) 10 (fun _=>.p0) J (fun _=>J) (fun _=>J) fun b4=>ImpX.here<|t_call1 J (base_Each_f1x_rule_Read_1x_c e1) (CoL.refl _) (.cons .p1 (.cons .p0 .nil)) (fun _=>J) J fun b5=>rM J J<|rX J J J<|rX J J J<|rA J J<|rA J J<|rN<|tS<|tSR<|rM J J<|ARun.qv (q_not J) J<|rN<|ATodo.cond J (fun hc=>?_) (fun hc=>?_)
    · refine have h := iteT hc h; tSR<|rM J J<|rA J J<|rA J J<|rA J J<|rN<|ATodo.ret<|?_
      obtain rfl := Option.some.inj h
      exact ImpX.arr (s := 2) 10 J fun b6=>ImpX.here ⟨_,.cons (.tmp _ _ J) (.cons (.tmp _ _ J) (.cons (.tmp _ _ J) .nil)),_,.cons .p0 .nil,⟨b6,J,J⟩⟩
    · refine have h := iteFb hc h; tK<|tS<|tSR<|rL J J .p0 J J<|bndE h fun v7 e2 h=>r_callpB J (rule_CheckRules_c e2) (.cons (CoB.arrT .p1) .nil) J J<|rA J J<|rN<|tSR<|rM J J<|ARun.qv (q_neq J J) J<|rN<|ATodo.cond_d J (fun hc=>?_) (fun hc=>?_)
      · refine have h := iteT hc h; tSR<|rM J J<|rA J J<|rA J J<|rA J J<|rN<|ATodo.ret<|?_
        obtain rfl := Option.some.inj h
        exact ImpX.arr (s := 2) 10 J fun b8=>ImpX.here ⟨_,.cons (.tmp _ _ J) (.cons (.tmp _ _ J) (.cons (.tmp _ _ J) .nil)),_,.cons .p0 .nil,⟨b8,J,J⟩⟩
      · refine have h := iteF hc h; tK<|tSR<|rL J J .p0 J J<|rA J J<|rA J J<|rA J J<|rN<|ATodo.ret<|?_
        obtain rfl := Option.some.inj h
        exact ImpX.here ⟨_,.cons (.tmp _ _ J) (.cons (.tmp _ _ J) (.cons (.tmp _ _ J) .nil)),_,.cons .p1 .nil,⟨b5,J,J⟩⟩

theorem slices_Contains_string_string_c [GI : GTab] {p0x0 : List Str} {p1x0 : Str} {r : Bool} (h : slices_Contains_string_string p0x0 p1x0 = some r) : Pu Tryz.prog 127 [lE1 p0x0,.str p1x0] (.bool r) := by
  unfold slices_Contains_string_string at h
  refine ACall.bodyN Tryz.func127 J Tryz.ntmps127 Tryz.results127 J J ?_
  refine tSR<|rA J J<|rN<|tSR<|rM J J<|rM J J<|bndE h fun v1 e1 h=>r_callp J (slices_Index_string_string_c e1) (CoL.refl _) J<|ARun.qv (q_geq J J) J<|rA J J<|rN<|ATodo.ret<|?_
  obtain rfl := Option.some.inj h
  exact ImpX.here ⟨_,.cons (.tmp _ _ J) .nil,J⟩

theorem Q_Number_c {p0x0 : Str} {p1x0 : Int} {r : Int × Bool} (h : Q_Number p0x0 p1x0 = some r) : Pu Tryz.prog 128 [.str p0x0,I p1x0] (.tup [I r.1,.bool r.2]) := by
  unfold Q_Number at h
  refine ACall.bodyN Tryz.func128 J Tryz.ntmps128 Tryz.results128 J J ?_
  refine tSR<|rA J J<|rA J J<|rN<|tSR<|rM J J<|r_callp J (strings_TrimPrefix_c J) (CoL.refl _) J<|rA J J<|rN<|tS<|tS<|ATodo.cut (fun σ'=>∃ (c1 : Bool),Q_Number_j1 p0x0 c1 = some r ∧ σ' = ⟨38,[(0,.str p0x0),(23,.bool c1)],[]⟩) ?_ ?_
  · refine tR<|rM J J<|ARun.qv (q_seq J J) J<|rM J J<|ARun.guard_df J J J (fun hc=>?_) (fun hc=>?_)
    · refine have h := iteF hc h; rM J J<|rY J J J<|ARun.qv (q_len_str J) J<|rY J J J<|rM J J<|rY J J J<|ARun.qv (q_gtr J J) J<|rE J J J<|rM J J<|ARun.guard_df J J J (fun hc=>?_) (fun hc=>?_)
      · exact have h := iteF hc h; rM J J<|rY J J J<|bndE h fun v2 e1 h=>r_callp J (strings_Trim_c e1) (CoL.refl _) J<|rY J J J<|ARun.qv (q_sne J J) J<|rE J J J<|rN<|ATodo.stop<|ImpX.lq [] ⟨decide (v2 ≠ ([] : Str)),h,J⟩ J J
      · exact have h := iteT hc h; rG J J J J<|rG J J J J<|rT J J J<|rN<|ATodo.stop<|ImpX.lq [] ⟨true,h,J⟩ J J
    · exact have h := iteT hc h; rG J J J J<|rG J J J J<|rG J J J J<|rT J J J<|rM J J<|rG J J J J<|rG J J J J<|rG J J J J<|rT J J J<|rN<|ATodo.stop<|ImpX.lq [] ⟨true,h,J⟩ J J
  · rintro σ' ⟨c1, h, rfl⟩
    unfold Q_Number_j1 at h
    refine ATodo.cond J (fun hc=>?_) (fun hc=>?_)
    · refine have h := iteT hc h; tSR<|rA J J<|rA J J<|rN<|ATodo.ret<|?_
      obtain rfl := Option.some.inj h
      exact ImpX.here ⟨_,.cons (.tmp _ _ J) (.cons (.tmp _ _ J) .nil),J⟩
    · refine have h := iteFb hc h; tK<|tSR<|rM J J<|bndE h fun v3 e2 h=>t_callE J (strconv_Atoi_c e2) (CoL.refl _) J fun e4 e3=>rM J J<|rX J J J<|rX J J J<|rA J J<|rA J J<|rN<|tS<|ATodo.cut (fun σ'=>∃ (c5 : Bool),Q_Number_j2 v3 c5 = some r ∧ σ' = ⟨38,[(4,I v3.1),(5,.bool c5)],[]⟩) ?_ ?_
      · refine tR<|rM J J<|rM J J<|ARun.qv (q_eqE e3 J) J<|rM J J<|ARun.guard J J J (fun hc=>?_) (fun hc=>?_)
        · exact have h := iteT hc h; rM J J<|rY J J J<|bndE h fun v6 e4 h=>r_callp J (strconv_Itoa_c e4) (CoL.refl _) J<|rY J J J<|rM J J<|rY J J J<|ARun.qv (q_seq J J) J<|rT J J J<|rA J J<|rA J J<|rN<|ATodo.stop<|ImpX.lq [] ⟨decide (v6 = p0x0),h,J⟩ J J
        · exact have h := iteFb hc h; rG J J J J<|rG J J J J<|rG J J J J<|rE J J J<|rA J J<|rA J J<|rN<|ATodo.stop<|ImpX.lq [] ⟨false,h,J⟩ J J
      · rintro σ' ⟨c5, h, rfl⟩
        unfold Q_Number_j2 at h
        refine ATodo.ret<|?_
        obtain rfl := Option.some.inj h
        exact ImpX.here ⟨_,.cons (.tmp _ _ J) (.cons (.tmp _ _ J) .nil),J⟩

theorem Q_RulesRead_1x_c {b_1 : Bk} {b_1x0 : Bk} {p0x0 : Str} {p1x0 : List Rule} {r : Bool × (List Rule)} (h : Q_RulesRead_1x p0x0 p1x0 = some r) : ACall Tryz.prog 126 [.str p0x0,.ptr b_1 0] [(b_1,.cells [.sl 10 b_1x0 0 p1x0.length]),(b_1x0,aE2 p1x0)] (T1 (fun c_1x0=>[(b_1,.cells [.sl 10 c_1x0 0 r.2.length]),(c_1x0,aE2 r.2)]) (fun c_1x0=>.bool r.1)) := by
  unfold Q_RulesRead_1x at h
  refine ACall.lessH ?_
  refine ACall.bodyN Tryz.func126 J Tryz.ntmps126 Tryz.results126 J J ?_
  refine tSR<|rA J J<|rN<|tSR<|rM J J<|bndE h fun v1 e1 h=>t_call1 J (strings_Split_c e1) (CoL.refl _) .nil (fun _=>J) J fun b2=>rA J J<|rN<|tS<|tS<|ATodo.cut (fun σ'=>∃ (c3 : Bool),Q_RulesRead_1x_j1 p1x0 v1 c3 = some r ∧ σ' = ⟨94,[(1,.ptr b_1 0),(4,.sl 1 b2 0 v1.length),(31,.bool c3)],[(b_1,.cells [.sl 10 b_1x0 0 p1x0.length]),(b_1x0,aE2 p1x0),(b2,aE1 v1)]⟩) ?_ ?_
  · refine tR<|rM J J<|ARun.qv (t_len_sl J) J<|ARun.qv (q_neq J J) J<|rM J J<|ARun.guard_df J J J (fun hc=>?_) (fun hc=>?_)
    · refine have h := iteF hc h; rM J J<|rY J J J<|bndE h fun v4 e2 h=>r_callpB J (slices_Contains_string_string_c e2) (.cons (CoB.arrT .p0) (.cons (.co (.refl _)) .nil)) J J<|rE J J J<|rM J J<|ARun.guard J J J (fun hc=>?_) (fun hc=>?_)
      · refine have h := iteFb hc h; rM J J<|rY J J J<|bndE h fun v5 e3 h=>ARun.qv (t_index_sl J J J e3) J<|rY J J J<|ARun.qv (t_load_aptr (g := AV.str) J J (.inl .p0) e3 J) J<|rY J J J<|ARun.qv (q_sne J J) J<|rY J J J<|rM J J<|ARun.guard_dt J J J (fun hc=>?_) (fun hc=>?_)
        · exact have h := iteT hc h; rM J J<|rY J J J<|bndE h fun v6 e4 h=>ARun.qv (t_index_sl J J J e4) J<|rY J J J<|ARun.qv (t_load_aptr (g := AV.str) J J (.inl .p0) e4 J) J<|rY J J J<|ARun.qv (q_sne J J) J<|rY J J J<|rT J J J<|rE J J J<|rN<|ATodo.stop<|ImpX.lq [1,1,0] ⟨decide (v6 ≠ ([98,101,108,111,119] : Str)),h,J⟩ J J
        · exact have h := iteF hc h; rG J J J J<|rG J J J J<|rG J J J J<|rY J J J<|rE J J J<|rE J J J<|rN<|ATodo.stop<|ImpX.lq [1,1,0] ⟨false,h,J⟩ J J
      · exact have h := iteT hc h; rG J J J J<|rG J J J J<|rG J J J J<|rG J J J J<|ARun.guard_und J J J<|ARun.guard_und J J J<|ARun.guard_und J J J<|ARun.guard_und J J J<|rG J J J J<|rT J J J<|rN<|ATodo.stop<|ImpX.lq [1,1,0] ⟨true,h,J⟩ J J
    · exact have h := iteT hc h; rG J J J J<|rT J J J<|rM J J<|rG J J J J<|rG J J J J<|rG J J J J<|rG J J J J<|rG J J J J<|ARun.guard_und J J J<|ARun.guard_und J J J<|ARun.guard_und J J J<|ARun.guard_und J J J<|rG J J J J<|rT J J J<|rN<|ATodo.stop<|ImpX.lq [1,1,0] ⟨true,h,J⟩ J J
  · rintro σ' ⟨c3, h, rfl⟩
    unfold Q_RulesRead_1x_j1 at h
    refine ATodo.cond J (fun hc=>?_) (fun hc=>?_)
    · refine have h := iteT hc h; tSR<|rA J J<|rN<|ATodo.ret<|?_
      obtain rfl := Option.some.inj h
      exact ImpX.here ⟨_,.cons (.tmp _ _ J) .nil,_,.cons .p0 (.cons .p0 .nil),⟨b_1x0,J,J⟩⟩
    · refine have h := iteFb hc h; tK<|tSR<|n_allocA (g := I) (Xs := ([(0 : Int),(0 : Int),(0 : Int),(0 : Int),(0 : Int)] : List Int)) J J J J J J fun b7=>rN<|tS<|tSR<|n_buildSliceL (xs := ([(3 : Int),(5 : Int),(6 : Int),(7 : Int),(8 : Int)]).map I) J J J J J J<|ARun.qv (t_len J) J<|rM J J<|rN<|ATodo.block<|ATodo.loopI (fun x : (List Int) × Int=>Q_RulesRead_1x_b1 p1x0 v1 x.1 x.2) (fun x σ'=>σ' = ⟨94,[(1,.ptr b_1 0),(4,.sl 1 b2 0 v1.length),(5,.ptr b7 0),(32,lE0 [(3 : Int),(5 : Int),(6 : Int),(7 : Int),(8 : Int)]),(33,I ([(3 : Int),(5 : Int),(6 : Int),(7 : Int),(8 : Int)].length : Int)),(34,I x.2)],[(b_1,.cells [.sl 10 b_1x0 0 p1x0.length]),(b_1x0,aE2 p1x0),(b2,aE1 v1),(b7,aE0 x.1)]⟩) h ?_ ?_
      · exact ImpX.lq [1,1,1,0] J J J
      · intro x z1 σ' J1 hmk h hJ1 hA1
        obtain ⟨l10, n11⟩ := x
        obtain rfl := hmk
        replace h : Q_RulesRead_1x_b1 p1x0 v1 l10 n11 = some z1 := h
        unfold Q_RulesRead_1x_b1 at h
        refine tSR<|ARun.qv (q_lss J J) J<|rN<|tS<|ATodo.cond_d J (fun hc=>?_) (fun hc=>?_)
        · refine have h := iteT hc h; tK<|tS<|ATodo.block<|tSR<|rM J J<|bndE h fun v12 e5 h=>ARun.qv (t_index J J J e5 J J) J<|ARun.qv (q_load_rptr J J J) J<|rA J J<|rA J J<|rN<|tSR<|rA J J<|rN<|tSR<|rM J J<|rM J J<|rM J J<|bndE h fun v13 e6 h=>ARun.qv (t_index_sl J J J e6) J<|ARun.qv (t_load_aptr (g := AV.str) J J (.inl .p2) e6 J) J<|bndE h fun v14 e7 h=>r_callp J (Q_Number_c e7) (CoL.refl _) J<|rM J J<|rX J J J<|rX J J J<|bndE h fun v15 e8 h=>ARun.qv (t_index_ar J J J e8) J<|t_store_aptr1 (g := I) (el' := v14.1) J J J J (idxA_some e8).2 J .p3 J<|rA J J<|rN<|tSR<|rM J J<|ARun.qv (q_not J) J<|rN<|ATodo.cond J (fun hc=>?_) (fun hc=>?_)
          · refine have h := iteT hc h; tSR<|rA J J<|rN<|ATodo.ret<|have h := outL h hA1; ?_
            obtain rfl := Option.some.inj h
            exact ImpX.here ⟨_,.cons (.tmp _ _ J) .nil,_,.cons .p0 (.cons .p0 .nil),⟨b_1x0,J,J⟩⟩
          · refine have h := iteFb hc h; tK<|ATodo.blk<|tR<|ARun.qv (q_addw J J) J<|rM J J<|rN<|ATodo.stop<|?_
            obtain rfl := Option.some.inj h
            exact hJ1 _ _ J<|ImpX.lq [0,0,0,0] J J J
        · refine have h := iteF hc h; ATodo.exit J<|have h := outL h hA1; ?_
          unfold Q_RulesRead_1x_k3 at h
          refine tS<|ATodo.regionM (id := 13) (A := [0,0,2,6,15,31,0,64,192,511,1023,2047]) 12 mixed J (by kernel_rfl) (by kernel_rfl)<|AM.callp J (Q_aggs_c J) (CoL.refl _) J<|AM.qv (q_move J) J<|bndE h fun v16 e9 h=>AM.qv (t_index_sl J J J e9) J<|AM.qv (t_load_aptr (g := AV.str) J J (.inl .p2) e9 J) J<|bndE h fun v17 e10 h=>AM.callp J (slices_Index_string_string_c e10) (CoL.refl _) J<|AM.callp J (Q_empties_c J) (CoL.refl _) J<|AM.qv (q_move J) J<|bndE h fun v18 e11 h=>AM.qv (t_index_sl J J J e11) J<|AM.qv (t_load_aptr (g := AV.str) J J (.inl .p2) e11 J) J<|bndE h fun v19 e12 h=>AM.callp J (slices_Index_string_string_c e12) (CoL.refl _) J<|AM.qv (q_assign J) J<|AM.qv (q_assign J) J<|AM.nil<|rN<|tS<|ATodo.regionM (id := 14) (A := [0,0,2,6,0,16,48,0,0,256,0,1024,3072,7168,0,16384,0,65536,0,262144,0,1048576,0,8388606,16777214,33554431,67108863]) 25 mixed J (by kernel_rfl) (by kernel_rfl)<|AM.qv (q_load_ptr J J .p0 J) J<|AM.qv (q_move J) J<|bndE h fun v20 e13 h=>AM.qv (t_index_sl J J J e13) J<|AM.qv (t_load_aptr (g := AV.str) J J (.inl .p2) e13 J) J<|AM.qv (q_move J) J<|bndE h fun v21 e14 h=>AM.qv (t_index_sl J J J e14) J<|AM.qv (t_load_aptr (g := AV.str) J J (.inl .p2) e14 J) J<|AM.qv (q_move J) J<|bndE h fun v22 e15 h=>AM.qv (t_index_ar J J J e15) J<|AM.qv (t_load_aptr (g := I) J J (.inl .p3) (idxA_some e15).2 J) J<|AM.qv (q_move J) J<|bndE h fun v23 e16 h=>AM.qv (t_index_sl J J J e16) J<|AM.qv (t_load_aptr (g := AV.str) J J (.inl .p2) e16 J) J<|AM.qv (q_seq J J) J<|bndE h fun v24 e17 h=>AM.qv (t_index_ar J J J e17) J<|AM.qv (t_load_aptr (g := I) J J (.inl .p3) (idxA_some e17).2 J) J<|bndE h fun v25 e18 h=>AM.qv (t_index_ar J J J e18) J<|AM.qv (t_load_aptr (g := I) J J (.inl .p3) (idxA_some e18).2 J) J<|bndE h fun v26 e19 h=>AM.qv (t_index_ar J J J e19) J<|AM.qv (t_load_aptr (g := I) J J (.inl .p3) (idxA_some e19).2 J) J<|bndE h fun v27 e20 h=>AM.qv (t_index_ar J J J e20) J<|AM.qv (t_load_aptr (g := I) J J (.inl .p3) (idxA_some e20).2 J) J<|AM.qv (q_move J) J<|AM.qv (n_build J J J J J) J<|AM.buildSliceL (xs := ([(⟨v20,v21,v17,v22,decide (v23 = ([97,98,111,118,101] : Str)),v24,v25,v26,v27,v19⟩ : Rule)]).map Rule.av) J J J J J J<|AM.nil<|bndE h fun l28 e21 h=>t_append (g := Rule.av) J J J J J J J J (.list _) e21 (fun _=>.p1) J fun b29=>n_store_ptr J J J J .p0 J J<|rN<|tS<|ATodo.cut (fun σ'=>∃ (c30 : Bool),Q_RulesRead_1x_j2 l28 c30 = some r ∧ σ' = ⟨94,[(3,.bool c30)],[(b_1,.cells [.sl 10 b29 0 l28.length]),(b29,aE2 l28)]⟩) ?_ ?_
          · refine tR<|rM J J<|ARun.qv (q_gtr J J) J<|rM J J<|ARun.guard_dt J J J (fun hc=>?_) (fun hc=>?_)
            · rw [andTd hc] at h
              exact rM J J<|rY J J J<|ARun.qv (q_geq J J) J<|rT J J J<|rA J J<|rN<|ATodo.stop<|ImpX.lq [0,0] ⟨decide ((0 : Int) ≤ v19),h,J⟩ J J
            · rw [andFd hc] at h
              exact rG J J J J<|rE J J J<|rA J J<|rN<|ATodo.stop<|ImpX.lq [0,0] ⟨false,h,J⟩ J J
          · rintro σ' ⟨c30, h, rfl⟩
            unfold Q_RulesRead_1x_j2 at h
            refine ATodo.ret<|?_
            obtain rfl := Option.some.inj h
            exact ImpX.here ⟨_,.cons (.tmp _ _ J) .nil,_,.cons .p0 (.cons .p0 .nil),⟨b29,J,J⟩⟩

theorem Q_Lines_f1x_Q_RulesRead_1x_c {b_2 : Bk} {b_2x0 : Bk} {p0x0 : Str} {p2x0 : List Rule} {r : Int × Bool × (List Rule)} (h : Q_Lines_f1x_Q_RulesRead_1x p0x0 p2x0 = some r) : ACall Tryz.prog 125 [.str p0x0,.func (.func 126) [.ptr b_2 0]] [(b_2,.cells [.sl 10 b_2x0 0 p2x0.length]),(b_2x0,aE2 p2x0)] (T1 (fun c_2x0=>[(b_2,.cells [.sl 10 c_2x0 0 r.2.2.length]),(c_2x0,aE2 r.2.2)]) (fun c_2x0=>.tup [I r.1,.bool r.2.1])) := by
  unfold Q_Lines_f1x_Q_RulesRead_1x at h
  refine ACall.lessH ?_
  refine ACall.bodyN Tryz.func125 J Tryz.ntmps125 Tryz.results125 J J ?_
  refine tSR<|rA J J<|rA J J<|rN<|tS<|tSR<|rA J J<|rN<|ATodo.block<|ATodo.loopI (fun x : (List Rule) × Str × Int=>Q_Lines_f1x_Q_RulesRead_1x_b1 x.1 x.2.1 x.2.2) (fun x σ'=>∃ (b5 : Bk),σ' = ⟨30,[(0,.str x.2.1),(1,.func (.func 126) [.ptr b_2 0]),(6,I x.2.2)],[(b_2,.cells [.sl 10 b5 0 x.1.length]),(b5,aE2 x.1)]⟩) h ?_ ?_
  · exact ImpX.lq [0,0] ⟨b_2x0,J⟩ J J
  · intro x z1 σ' J1 hmk h hJ1 hA1
    obtain ⟨l6, q7, n8⟩ := x
    obtain ⟨b5, rfl⟩ := hmk
    replace h : Q_Lines_f1x_Q_RulesRead_1x_b1 l6 q7 n8 = some z1 := h
    unfold Q_Lines_f1x_Q_RulesRead_1x_b1 at h
    refine tS<|tSR<|rM J J<|ARun.qv (q_sne J J) J<|rN<|ATodo.cond_d J (fun hc=>?_) (fun hc=>?_)
    · refine have h := iteT hc h; tK<|tS<|ATodo.block<|tSR<|rM J J<|bndE h fun v9 e1 h=>r_callp J (strings_Cut_c e1) (CoL.refl _) J<|rM J J<|rX J J J<|rX J J J<|rX J J J<|rA J J<|rA J J<|rA J J<|rN<|tS<|tS<|ATodo.cut (fun σ'=>∃ (b10 : Bk) (l11 : List Rule) (c12 : Bool),Q_Lines_f1x_Q_RulesRead_1x_j1 n8 v9 l11 c12 = some z1 ∧ σ' = ⟨30,[(1,.func (.func 126) [.ptr b_2 0]),(6,I n8),(8,.str v9.2.1),(27,.bool c12)],[(b_2,.cells [.sl 10 b10 0 l11.length]),(b10,aE2 l11)]⟩) ?_ ?_
      · refine tR<|rM J J<|ARun.qv (q_not J) J<|rM J J<|ARun.guard J J J (fun hc=>?_) (fun hc=>?_)
        · exact have h := iteFb hc h; rM J J<|rY J J J<|rM J J<|rY J J J<|bndE h fun v13 e2 h=>t_callv1 J J J (Q_RulesRead_1x_c e2) (CoL.refl _) (.cons .p0 (.cons .p0 .nil)) (fun _=>J) J fun b14=>rY J J J<|ARun.qv (q_not J) J<|rE J J J<|rN<|ATodo.stop<|ImpX.lq [0,0] ⟨b14,v13.2,!v13.1,h,J⟩ J J
        · exact have h := iteT hc h; rG J J J J<|rG J J J J<|rG J J J J<|rT J J J<|rN<|ATodo.stop<|ImpX.lq [0,0] ⟨b5,l6,true,h,J⟩ J J
      · rintro σ' ⟨b10, l11, c12, h, rfl⟩
        unfold Q_Lines_f1x_Q_RulesRead_1x_j1 at h
        refine ATodo.cond J (fun hc=>?_) (fun hc=>?_)
        · refine have h := iteT hc h; tSR<|rM J J<|rA J J<|rA J J<|rN<|ATodo.ret<|have h := outL h hA1; ?_
          obtain rfl := Option.some.inj h
          exact ImpX.here ⟨_,.cons (.tmp _ _ J) (.cons (.tmp _ _ J) .nil),_,.cons .p0 (.cons .p0 .nil),⟨b10,J,J⟩⟩
        · refine have h := iteFb hc h; tK<|tR<|rM J J<|rA J J<|rN<|ATodo.blk<|tR<|rM J J<|ARun.qv (q_addw J J) J<|rA J J<|rN<|ATodo.stop<|?_
          obtain rfl := Option.some.inj h
          exact hJ1 _ _ J<|ImpX.lq [0,0] ⟨b10,J⟩ J J
    · refine have h := iteF hc h; ATodo.exit J<|have h := outL h hA1; tSR<|rA J J<|rA J J<|rN<|ATodo.ret<|?_
      obtain rfl := Option.some.inj h
      exact ImpX.here ⟨_,.cons (.tmp _ _ J) (.cons (.tmp _ _ J) .nil),_,.cons .p0 (.cons .p0 .nil),⟨b5,J,J⟩⟩

theorem Q_RulesRead_c {p0x0 : Str} {r : (List Rule) × Int × Int} (h : Q_RulesRead p0x0 = some r) : ACall Tryz.prog 45 [.str p0x0] [] (T1 (fun d_0=>[(d_0,aE2 r.1)]) (fun d_0=>.tup [.sl 10 d_0 0 r.1.length,I r.2.1,I r.2.2])) := by
  unfold Q_RulesRead at h
  refine ACall.lessH ?_
  refine ACall.bodyN Tryz.func45 J Tryz.ntmps45 Tryz.results45 J J ?_
  refine tSR<|rA J J<|rA J J<|rA J J<|rN<|tS<|tSR<|rM J J<|ARun.qv (q_len_str J) J<|ARun.qv (q_gtr J J) J<|rN<|ATodo.cond_d J (fun hc=>?_) (fun hc=>?_)
  · refine have h := iteT hc h; tSR<|rA J J<|rA J J<|rA J J<|rN<|ATodo.ret<|?_
    obtain rfl := Option.some.inj h
    exact ImpX.arr (s := 2) 10 J fun b1=>ImpX.here ⟨_,.cons (.tmp _ _ J) (.cons (.tmp _ _ J) (.cons (.tmp _ _ J) .nil)),_,.cons .p0 .nil,⟨b1,J,J⟩⟩
  · refine have h := iteF hc h; tK<|tSR<|n_alloc J J J J fun b2=>rN<|tSR<|rM J J<|ARun.qv (q_makeFunc J) J<|bndE h fun v3 e1 h=>ARun.ghost<|ImpX.arrBox (j := 0) 10 (fun _=>.p0) J (fun _=>J) (fun _=>J) fun b4=>ImpX.here<|t_call1 J (Q_Lines_f1x_Q_RulesRead_1x_c e1) (CoL.refl _) (.cons .p1 (.cons .p0 .nil)) (fun _=>J) J fun b5=>rM J J<|rX J J J<|rX J J J<|rA J J<|rA J J<|rN<|tS<|tSR<|rM J J<|ARun.qv (q_not J) J<|rN<|ATodo.cond J (fun hc=>?_) (fun hc=>?_)
    · refine have h := iteT hc h; tSR<|rM J J<|rA J J<|rA J J<|rA J J<|rN<|ATodo.ret<|?_
      obtain rfl := Option.some.inj h
      exact ImpX.arr (s := 2) 10 J fun b6=>ImpX.here ⟨_,.cons (.tmp _ _ J) (.cons (.tmp _ _ J) (.cons (.tmp _ _ J) .nil)),_,.cons .p0 .nil,⟨b6,J,J⟩⟩
    · refine have h := iteFb hc h; tK<|tS<|tSR<|rL J J .p0 J J<|bndE h fun v7 e2 h=>r_callpB J (Q_RulesFault_c e2) (.cons (CoB.arrT .p1) .nil) J J<|rA J J<|rN<|tSR<|rM J J<|ARun.qv (q_neq J J) J<|rN<|ATodo.cond_d J (fun hc=>?_) (fun hc=>?_)
      · refine have h := iteT hc h; tSR<|rM J J<|rA J J<|rA J J<|rA J J<|rN<|ATodo.ret<|?_
        obtain rfl := Option.some.inj h
        exact ImpX.arr (s := 2) 10 J fun b8=>ImpX.here ⟨_,.cons (.tmp _ _ J) (.cons (.tmp _ _ J) (.cons (.tmp _ _ J) .nil)),_,.cons .p0 .nil,⟨b8,J,J⟩⟩
      · refine have h := iteF hc h; tK<|tSR<|rL J J .p0 J J<|rA J J<|rA J J<|rA J J<|rN<|ATodo.ret<|?_
        obtain rfl := Option.some.inj h
        exact ImpX.here ⟨_,.cons (.tmp _ _ J) (.cons (.tmp _ _ J) (.cons (.tmp _ _ J) .nil)),_,.cons .p1 .nil,⟨b5,J,J⟩⟩

theorem slices_Equal_Rule_Rule_c [GI : GTab] {p0x0 : List Rule} {p1x0 : List Rule} {r : Bool} (h : slices_Equal_Rule_Rule p0x0 p1x0 = some r) : Pu Tryz.prog 46 [lE2 p0x0,lE2 p1x0] (.bool r) := by
  unfold slices_Equal_Rule_Rule at h
  refine ACall.bodyN Tryz.func46 J Tryz.ntmps46 Tryz.results46 J J ?_
  refine tSR<|rA J J<|rN<|tS<|tSR<|rM J J<|ARun.qv (t_len J) J<|rM J J<|ARun.qv (t_len J) J<|ARun.qv (q_neq J J) J<|rN<|ATodo.cond_d J (fun hc=>?_) (fun hc=>?_)
  · refine have h := iteT hc h; tSR<|rA J J<|rN<|ATodo.ret<|?_
    obtain rfl := Option.some.inj h
    exact ImpX.here ⟨_,.cons (.tmp _ _ J) .nil,J⟩
  · refine have h := iteF hc h; tK<|tS<|tSR<|rM J J<|ARun.qv (t_len J) J<|rM J J<|rN<|ATodo.block<|ATodo.loopI (fun x : Int=>slices_Equal_Rule_Rule_b1 p0x0 p1x0 x) (fun x σ'=>σ' = ⟨26,[(0,lE2 p0x0),(1,lE2 p1x0),(12,I (p0x0.length : Int)),(13,I x)],[]⟩) h ?_ ?_
    · exact ImpX.lq [] J J J
    · intro n2 z1 σ' J1 hmk h hJ1 hA1
      obtain rfl := hmk
      replace h : slices_Equal_Rule_Rule_b1 p0x0 p1x0 n2 = some z1 := h
      unfold slices_Equal_Rule_Rule_b1 at h
      refine tSR<|ARun.qv (q_lss J J) J<|rN<|tS<|ATodo.cond_d J (fun hc=>?_) (fun hc=>?_)
      · refine have h := iteT hc h; tK<|tS<|ATodo.block<|tSR<|rM J J<|rA J J<|rN<|tS<|ATodo.regionM (id := 6) (A := [0,0,3,7,0,0,48,112,255]) 9 mixed J (by kernel_rfl) (by kernel_rfl)<|AM.qv (q_move J) J<|AM.qv (q_move J) J<|bndE h fun v3 e1 h=>AM.qv (t_index J J J e1 J J) J<|AM.qv (q_load_rptr_agg J J J) J<|AM.qv (q_move J) J<|AM.qv (q_move J) J<|bndE h fun v4 e2 h=>AM.qv (t_index J J J e2 J J) J<|AM.qv (q_load_rptr_agg J J J) J<|AM.qv (t_tne (g := Rule.av) (X := v3) (Y := v4) J J J J J) J<|AM.nil<|rN<|ATodo.cond_d J (fun hc=>?_) (fun hc=>?_)
        · refine have h := iteT hc h; tSR<|rA J J<|rN<|ATodo.ret<|have h := outL h hA1; ?_
          obtain rfl := Option.some.inj h
          exact ImpX.here ⟨_,.cons (.tmp _ _ J) .nil,J⟩
        · refine have h := iteF hc h; tK<|ATodo.blk<|tR<|ARun.qv (q_addw J J) J<|rM J J<|rN<|ATodo.stop<|?_
          obtain rfl := Option.some.inj h
          exact hJ1 _ _ J<|ImpX.lq [] J J J
      · refine have h := iteF hc h; ATodo.exit J<|have h := outL h hA1; tSR<|rA J J<|rN<|ATodo.ret<|?_
        obtain rfl := Option.some.inj h
        exact ImpX.here ⟨_,.cons (.tmp _ _ J) .nil,J⟩

theorem base_Moment_c [GI : GTab] {p0x0 : Int} {r : Bool} (h : base_Moment p0x0 = r) : Pu Tryz.prog 220 [I p0x0] (.bool r) := by
  unfold base_Moment at h
  refine ACall.bodyN Tryz.func220 J Tryz.ntmps220 Tryz.results220 J J ?_
  refine tSR<|rA J J<|rN<|tSR<|rM J J<|r_callp J (base_Out_c J) (CoL.refl _) J<|ARun.qv (q_not J) J<|rA J J<|rN<|ATodo.ret<|?_
  obtain rfl := h
  exact ImpX.here ⟨_,.cons (.tmp _ _ J) .nil,J⟩

theorem rule_sampleFault_c [GI : GTab] {p0x0 : Sample} {r : Int} (h : rule_sampleFault p0x0 = some r) : Pu Tryz.prog 167 [Sample.av p0x0] (I r) := by
  unfold rule_sampleFault at h
  refine ACall.bodyN Tryz.func167 J Tryz.ntmps167 Tryz.results167 J J ?_
  refine tSR<|n_box J J J J fun b1=>rA J J<|rN<|tS<|ATodo.block<|tSR<|rF J J J<|rL J J .p0 J J<|r_callp J (base_Moment_c J) (CoL.refl _) J<|ARun.qv (q_not J) J<|rA J J<|rN<|ATodo.cond J (fun hc=>?_) (fun hc=>?_)
  · refine have h := iteT hc h; tSR<|rA J J<|rN<|ATodo.ret<|?_
    obtain rfl := Option.some.inj h
    exact ImpX.here ⟨_,.cons (.tmp _ _ J) .nil,J⟩
  · refine have h := iteFb hc h; tS<|ATodo.cut (fun σ'=>∃ (c2 : Bool),rule_sampleFault_j1 p0x0 c2 = some r ∧ σ' = ⟨23,[(1,.ptr b1 0),(8,.bool c2)],[(b1,.cells (cE1 p0x0))]⟩) ?_ ?_
    · refine tR<|rF J J J<|rL J J .p0 J J<|bndE h fun v3 e1 h=>r_callp J (base_Key_c e1) (CoL.refl _) J<|ARun.qv (q_not J) J<|rM J J<|ARun.guard J J J (fun hc=>?_) (fun hc=>?_)
      · exact have h := iteFb hc h; rF J J J<|rY J J J<|rL J J .p0 J J<|rY J J J<|bndE h fun v4 e2 h=>r_callp J (base_Key_c e2) (CoL.refl _) J<|rY J J J<|ARun.qv (q_not J) J<|rE J J J<|rA J J<|rN<|ATodo.stop<|ImpX.lq [0] ⟨!v4,h,J⟩ J J
      · exact have h := iteT hc h; rG J J J J<|rG J J J J<|rG J J J J<|rT J J J<|rA J J<|rN<|ATodo.stop<|ImpX.lq [0] ⟨true,h,J⟩ J J
    · rintro σ' ⟨c2, h, rfl⟩
      unfold rule_sampleFault_j1 at h
      refine ATodo.cond J (fun hc=>?_) (fun hc=>?_)
      · refine have h := iteT hc h; tSR<|rA J J<|rN<|ATodo.ret<|?_
        obtain rfl := Option.some.inj h
        exact ImpX.here ⟨_,.cons (.tmp _ _ J) .nil,J⟩
      · refine have h := iteFb hc h; tSR<|rF J J J<|rL J J .p0 J J<|r_callp J (base_Out_c J) (CoL.refl _) J<|rA J J<|rN<|ATodo.cond J (fun hc=>?_) (fun hc=>?_)
        · refine have h := iteT hc h; tSR<|rA J J<|rN<|ATodo.ret<|?_
          obtain rfl := Option.some.inj h
          exact ImpX.here ⟨_,.cons (.tmp _ _ J) .nil,J⟩
        · refine have h := iteFb hc h; tK<|ATodo.blk<|tSR<|rA J J<|rN<|ATodo.ret<|?_
          obtain rfl := Option.some.inj h
          exact ImpX.here ⟨_,.cons (.tmp _ _ J) .nil,J⟩

theorem cmp_isNaN_int_c [GI : GTab] {p0x0 : Int} {r : Bool} (h : cmp_isNaN_int p0x0 = r) : Pu Tryz.prog 211 [I p0x0] (.bool r) := by
  unfold cmp_isNaN_int at h
  refine ACall.bodyN Tryz.func211 J Tryz.ntmps211 Tryz.results211 J J ?_
  refine tSR<|rA J J<|rN<|tSR<|rM J J<|rM J J<|ARun.qv (q_neq J J) J<|rA J J<|rN<|ATodo.ret<|?_
  obtain rfl := h
  exact ImpX.here ⟨_,.cons (.tmp _ _ J) .nil,J⟩

theorem cmp_Compare_int_c [GI : GTab] {p0x0 : Int} {p1x0 : Int} {r : Int} (h : cmp_Compare_int p0x0 p1x0 = r) : Pu Tryz.prog 159 [I p0x0,I p1x0] (I r) := by
  unfold cmp_Compare_int at h
  refine ACall.bodyN Tryz.func159 J Tryz.ntmps159 Tryz.results159 J J ?_
  refine tSR<|rA J J<|rN<|tSR<|rM J J<|r_callp J (cmp_isNaN_int_c J) (CoL.refl _) J<|rA J J<|rN<|tSR<|rM J J<|r_callp J (cmp_isNaN_int_c J) (CoL.refl _) J<|rA J J<|rN<|tS<|tSR<|rM J J<|rN<|ATodo.cond J (fun hc=>?_) (fun hc=>?_)
  · refine have h := iteT hc h; tS<|tSR<|rM J J<|rN<|ATodo.cond J (fun hc=>?_) (fun hc=>?_)
    · refine have h := iteT hc h; tSR<|rA J J<|rN<|ATodo.ret<|?_
      obtain rfl := h
      exact ImpX.here ⟨_,.cons (.tmp _ _ J) .nil,J⟩
    · refine have h := iteFb hc h; tK<|tSR<|rA J J<|rN<|ATodo.ret<|?_
      obtain rfl := h
      exact ImpX.here ⟨_,.cons (.tmp _ _ J) .nil,J⟩
  · refine have h := iteFb hc h; tK<|tS<|tSR<|rM J J<|rN<|ATodo.cond J (fun hc=>?_) (fun hc=>?_)
    · refine have h := iteT hc h; tSR<|rA J J<|rN<|ATodo.ret<|?_
      obtain rfl := h
      exact ImpX.here ⟨_,.cons (.tmp _ _ J) .nil,J⟩
    · refine have h := iteFb hc h; tK<|tS<|tSR<|rM J J<|rM J J<|ARun.qv (q_lss J J) J<|rN<|ATodo.cond_d J (fun hc=>?_) (fun hc=>?_)
      · refine have h := iteT hc h; tSR<|rA J J<|rN<|ATodo.ret<|?_
        obtain rfl := h
        exact ImpX.here ⟨_,.cons (.tmp _ _ J) .nil,J⟩
      · refine have h := iteF hc h; tK<|tS<|tSR<|rM J J<|rM J J<|ARun.qv (q_gtr J J) J<|rN<|ATodo.cond_d J (fun hc=>?_) (fun hc=>?_)
        · refine have h := iteT hc h; tSR<|rA J J<|rN<|ATodo.ret<|?_
          obtain rfl := h
          exact ImpX.here ⟨_,.cons (.tmp _ _ J) .nil,J⟩
        · refine have h := iteF hc h; tK<|tSR<|rA J J<|rN<|ATodo.ret<|?_
          obtain rfl := h
          exact ImpX.here ⟨_,.cons (.tmp _ _ J) .nil,J⟩

theorem cmp_Or_int_c [GI : GTab] {p0x0 : List Int} {r : Int} (h : cmp_Or_int p0x0 = some r) : Pu Tryz.prog 158 [lE0 p0x0] (I r) := by
  unfold cmp_Or_int at h
  refine ACall.bodyN Tryz.func158 J Tryz.ntmps158 Tryz.results158 J J ?_
  refine tSR<|rA J J<|rN<|tSR<|rA J J<|rN<|tS<|tSR<|rM J J<|ARun.qv (t_len J) J<|rM J J<|rN<|ATodo.block<|ATodo.loopI (fun x : Int=>cmp_Or_int_b1 p0x0 x) (fun x σ'=>σ' = ⟨18,[(3,I (0 : Int)),(6,lE0 p0x0),(7,I (p0x0.length : Int)),(8,I x)],[]⟩) h ?_ ?_
  · exact ImpX.lq [] J J J
  · intro n2 z1 σ' J1 hmk h hJ1 hA1
    obtain rfl := hmk
    replace h : cmp_Or_int_b1 p0x0 n2 = some z1 := h
    unfold cmp_Or_int_b1 at h
    refine tSR<|ARun.qv (q_lss J J) J<|rN<|tS<|ATodo.cond_d J (fun hc=>?_) (fun hc=>?_)
    · refine have h := iteT hc h; tK<|tS<|ATodo.block<|tSR<|bndE h fun v3 e1 h=>ARun.qv (t_index J J J e1 J J) J<|ARun.qv (q_load_rptr J J J) J<|rA J J<|rN<|tSR<|rM J J<|rM J J<|ARun.qv (q_neq J J) J<|rN<|ATodo.cond_d J (fun hc=>?_) (fun hc=>?_)
      · refine have h := iteT hc h; tSR<|rM J J<|rA J J<|rN<|ATodo.ret<|have h := outL h hA1; ?_
        obtain rfl := Option.some.inj h
        exact ImpX.here ⟨_,.cons (.tmp _ _ J) .nil,J⟩
      · refine have h := iteF hc h; tK<|ATodo.blk<|tR<|ARun.qv (q_addw J J) J<|rM J J<|rN<|ATodo.stop<|?_
        obtain rfl := Option.some.inj h
        exact hJ1 _ _ J<|ImpX.lq [] J J J
    · refine have h := iteF hc h; ATodo.exit J<|have h := outL h hA1; tSR<|rM J J<|rA J J<|rN<|ATodo.ret<|?_
      obtain rfl := Option.some.inj h
      exact ImpX.here ⟨_,.cons (.tmp _ _ J) .nil,J⟩

theorem rule_byMoment_c [GI : GTab] {p0x0 : Sample} {p1x0 : Sample} {r : Int} (h : rule_byMoment p0x0 p1x0 = some r) : Pu Tryz.prog 168 [Sample.av p0x0,Sample.av p1x0] (I r) := by
  unfold rule_byMoment at h
  refine ACall.bodyN Tryz.func168 J Tryz.ntmps168 Tryz.results168 J J ?_
  refine tSR<|n_box J J J J fun b1=>n_box J J J J fun b2=>rA J J<|rN<|tS<|ATodo.regionM (id := 1) (A := [0,1,0,4,15,0,32,0,128,511,0,1024,0,4096,16383,32767,65535,131071]) 18 mixed J (by kernel_rfl) (by kernel_rfl)<|AM.qv (n_field_ptr J J) J<|AM.qv (q_load_ptr J J .p1 J) J<|AM.qv (n_field_ptr J J) J<|AM.qv (q_load_ptr J J .p0 J) J<|AM.callp J (cmp_Compare_int_c J) (CoL.refl _) J<|AM.qv (n_field_ptr J J) J<|AM.qv (q_load_ptr J J .p1 J) J<|AM.qv (n_field_ptr J J) J<|AM.qv (q_load_ptr J J .p0 J) J<|AM.callp J (strings_Compare_c J) (CoL.refl _) J<|AM.qv (n_field_ptr J J) J<|AM.qv (q_load_ptr J J .p1 J) J<|AM.qv (n_field_ptr J J) J<|AM.qv (q_load_ptr J J .p0 J) J<|AM.callp J (strings_Compare_c J) (CoL.refl _) J<|AM.buildSliceL (xs := ([(cmp_Compare_int p0x0.At p1x0.At),(Lib.compareBytes p0x0.Device p1x0.Device),(Lib.compareBytes p0x0.Metric p1x0.Metric)] : List Int).map I) J J J J J J<|bndE h fun v3 e1 h=>AM.callp J (cmp_Or_int_c e1) (CoL.refl _) J<|AM.qv (q_assign J) J<|AM.nil<|rN<|ATodo.ret<|?_
  obtain rfl := Option.some.inj h
  exact ImpX.here ⟨_,.cons (.tmp _ _ J) .nil,J⟩

theorem rule_CheckSamples_c [GI : GTab] {p0x0 : List Sample} {r : Int} (h : rule_CheckSamples p0x0 = some r) : Pu Tryz.prog 95 [lE4 p0x0] (I r) := by
  unfold rule_CheckSamples at h
  refine ACall.bodyN Tryz.func95 J Tryz.ntmps95 Tryz.results95 J J ?_
  refine tSR<|rA J J<|rN<|tS<|tSR<|rM J J<|ARun.qv (t_len J) J<|ARun.qv (q_gtr J J) J<|rN<|ATodo.cond_d J (fun hc=>?_) (fun hc=>?_)
  · refine have h := iteT hc h; tSR<|rA J J<|rN<|ATodo.ret<|?_
    obtain rfl := Option.some.inj h
    exact ImpX.here ⟨_,.cons (.tmp _ _ J) .nil,J⟩
  · refine have h := iteF hc h; tK<|tS<|tSR<|rM J J<|ARun.qv (t_len J) J<|rM J J<|rN<|ATodo.block<|ATodo.loopI (fun x : Int=>rule_CheckSamples_b1 p0x0 x) (fun x σ'=>σ' = ⟨34,[(0,lE4 p0x0),(9,lE4 p0x0),(10,I (p0x0.length : Int)),(11,I x)],[]⟩) h ?_ ?_
    · exact ImpX.lq [] J J J
    · intro n2 z1 σ' J1 hmk h hJ1 hA1
      obtain rfl := hmk
      replace h : rule_CheckSamples_b1 p0x0 n2 = some z1 := h
      unfold rule_CheckSamples_b1 at h
      refine tSR<|ARun.qv (q_lss J J) J<|rN<|tS<|ATodo.cond_d J (fun hc=>?_) (fun hc=>?_)
      · refine have h := iteT hc h; tK<|tS<|ATodo.block<|tSR<|rM J J<|bndE h fun v3 e1 h=>ARun.qv (t_index J J J e1 J J) J<|ARun.qv (q_load_rptr_agg J J J) J<|n_alloc J J J J fun b4=>rA J J<|n_store_ptr J J J J .p0 J J<|rN<|tS<|tSR<|ARun.qv (q_load_ptr_all J J .p0 J) J<|bndE h fun v5 e2 h=>r_callp J (rule_sampleFault_c e2) (CoL.refl _) J<|rA J J<|rN<|tSR<|rM J J<|ARun.qv (q_neq J J) J<|rN<|ATodo.cond_d J (fun hc=>?_) (fun hc=>?_)
        · refine have h := iteT hc h; tSR<|rM J J<|rA J J<|rN<|ATodo.ret<|have h := outL h hA1; ?_
          obtain rfl := Option.some.inj h
          exact ImpX.here ⟨_,.cons (.tmp _ _ J) .nil,J⟩
        · refine have h := iteF hc h; tK<|tS<|ATodo.cut (fun σ'=>∃ (c6 : Bool),rule_CheckSamples_j1 n2 c6 = some z1 ∧ σ' = ⟨34,[(0,lE4 p0x0),(9,lE4 p0x0),(10,I (p0x0.length : Int)),(11,I n2),(32,.bool c6)],[]⟩) ?_ ?_
          · refine ATodo.regionM (id := 9) (A := [0,1,3,7,7,7,39,119,247,511,1023,2047]) 12 mixed J (by kernel_rfl) (by kernel_rfl)<|AM.qv (q_move J) J<|AM.qv (q_gtr J J) J<|AM.qv (q_move J) J<|AM.guard_dt J J J (fun hc=>?_) (fun hc=>?_)
            · exact have h := iteT hc h; AM.qv (q_load_ptr_all J J .p0 J) J<|AM.guard_yes J J J<|AM.qv (q_move J) J<|AM.guard_yes J J J<|AM.qv (q_move J) J<|AM.guard_yes J J J<|AM.qv (q_subw J J) J<|AM.guard_yes J J J<|bndE h fun v7 e3 h=>AM.qv (t_index J J J e3 J J) J<|AM.guard_yes J J J<|AM.qv (q_load_rptr_agg J J J) J<|AM.guard_yes J J J<|bndE h fun v8 e4 h=>AM.callp J (rule_byMoment_c e4) (CoL.refl _) J<|AM.guard_yes J J J<|AM.qv (q_leq J J) J<|AM.qv (q_pick_t J J) J<|AM.nil<|rN<|ATodo.stop<|ImpX.lq [] ⟨decide (v8 ≤ (0 : Int)),h,J⟩ J J
            · exact have h := iteF hc h; AM.guard_no J J J J<|AM.guard_no J J J J<|AM.guard_no J J J J<|AM.guard_no J J J J<|AM.guard_no J J J J<|AM.guard_no J J J J<|AM.guard_no J J J J<|AM.qv (q_pick_f J J) J<|AM.nil<|rN<|ATodo.stop<|ImpX.lq [] ⟨false,h,J⟩ J J
          · rintro σ' ⟨c6, h, rfl⟩
            unfold rule_CheckSamples_j1 at h
            refine ATodo.cond J (fun hc=>?_) (fun hc=>?_)
            · refine have h := iteT hc h; tSR<|rA J J<|rN<|ATodo.ret<|have h := outL h hA1; ?_
              obtain rfl := Option.some.inj h
              exact ImpX.here ⟨_,.cons (.tmp _ _ J) .nil,J⟩
            · refine have h := iteFb hc h; tK<|ATodo.blk<|tR<|ARun.qv (q_addw J J) J<|rM J J<|rN<|ATodo.stop<|?_
              obtain rfl := Option.some.inj h
              exact hJ1 _ _ J<|ImpX.lq [] J J J
      · refine have h := iteF hc h; ATodo.exit J<|have h := outL h hA1; tSR<|rA J J<|rN<|ATodo.ret<|?_
        obtain rfl := Option.some.inj h
        exact ImpX.here ⟨_,.cons (.tmp _ _ J) .nil,J⟩

theorem base_First_c [GI : GTab] {p0x0 : List Int} {r : Int} (h : base_First p0x0 = some r) : Pu Tryz.prog 83 [lE0 p0x0] (I r) := by
  unfold base_First at h
  refine ACall.bodyN Tryz.func83 J Tryz.ntmps83 Tryz.results83 J J ?_
  refine tSR<|rA J J<|rN<|tS<|tSR<|rM J J<|ARun.qv (t_len J) J<|rM J J<|rN<|ATodo.block<|ATodo.loopI (fun x : Int=>base_First_b1 p0x0 x) (fun x σ'=>σ' = ⟨15,[(5,lE0 p0x0),(6,I (p0x0.length : Int)),(7,I x)],[]⟩) h ?_ ?_
  · exact ImpX.lq [] J J J
  · intro n2 z1 σ' J1 hmk h hJ1 hA1
    obtain rfl := hmk
    replace h : base_First_b1 p0x0 n2 = some z1 := h
    unfold base_First_b1 at h
    refine tSR<|ARun.qv (q_lss J J) J<|rN<|tS<|ATodo.cond_d J (fun hc=>?_) (fun hc=>?_)
    · refine have h := iteT hc h; tK<|tS<|ATodo.block<|tSR<|bndE h fun v3 e1 h=>ARun.qv (t_index J J J e1 J J) J<|ARun.qv (q_load_rptr J J J) J<|rA J J<|rN<|tSR<|rM J J<|ARun.qv (q_neq J J) J<|rN<|ATodo.cond_d J (fun hc=>?_) (fun hc=>?_)
      · refine have h := iteT hc h; tSR<|rM J J<|rA J J<|rN<|ATodo.ret<|have h := outL h hA1; ?_
        obtain rfl := Option.some.inj h
        exact ImpX.here ⟨_,.cons (.tmp _ _ J) .nil,J⟩
      · refine have h := iteF hc h; tK<|ATodo.blk<|tR<|ARun.qv (q_addw J J) J<|rM J J<|rN<|ATodo.stop<|?_
        obtain rfl := Option.some.inj h
        exact hJ1 _ _ J<|ImpX.lq [] J J J
    · refine have h := iteF hc h; ATodo.exit J<|have h := outL h hA1; tSR<|rA J J<|rN<|ATodo.ret<|?_
      obtain rfl := Option.some.inj h
      exact ImpX.here ⟨_,.cons (.tmp _ _ J) .nil,J⟩

theorem base_Window_c [GI : GTab] {p0x0 : Window} {r : Bool} (h : base_Window p0x0 = r) : Pu Tryz.prog 96 [Window.av p0x0] (.bool r) := by
  unfold base_Window at h
  refine ACall.bodyN Tryz.func96 J Tryz.ntmps96 Tryz.results96 J J ?_
  refine tSR<|n_box J J J J fun b1=>rA J J<|rN<|tS<|ATodo.cut (fun σ'=>∃ (c2 : Bool),base_Window_j1 c2 = r ∧ σ' = ⟨14,[(2,.bool c2)],[]⟩) ?_ ?_
  · refine tR<|rF J J J<|rL J J .p0 J J<|rF J J J<|rL J J .p0 J J<|r_callp J (base_Out_c J) (CoL.refl _) J<|ARun.qv (q_not J) J<|rM J J<|ARun.guard J J J (fun hc=>?_) (fun hc=>?_)
    · rw [andTb hc] at h
      exact rF J J J<|rY J J J<|rL J J .p0 J J<|rY J J J<|ARun.qv (q_leq J J) J<|rT J J J<|rA J J<|rN<|ATodo.stop<|ImpX.lq [] ⟨decide (p0x0.To ≤ (345686400000 : Int)),h,J⟩ J J
    · rw [andFb hc] at h
      exact rG J J J J<|rG J J J J<|rE J J J<|rA J J<|rN<|ATodo.stop<|ImpX.lq [] ⟨false,h,J⟩ J J
  · rintro σ' ⟨c2, h, rfl⟩
    unfold base_Window_j1 at h
    refine ATodo.ret<|?_
    obtain rfl := h
    exact ImpX.here ⟨_,.cons (.tmp _ _ J) .nil,J⟩

theorem rule_fault_c [GI : GTab] {p0x0 : List Rule} {p1x0 : List Sample} {p2x0 : Window} {r : Int} (h : rule_fault p0x0 p1x0 p2x0 = some r) : Pu Tryz.prog 85 [lE2 p0x0,lE4 p1x0,Window.av p2x0] (I r) := by
  unfold rule_fault at h
  refine ACall.bodyN Tryz.func85 J Tryz.ntmps85 Tryz.results85 J J ?_
  refine tSR<|n_box J J J J fun b1=>rA J J<|rN<|tSR<|rM J J<|bndE h fun v2 e1 h=>r_callp J (rule_CheckRules_c e1) (CoL.refl _) J<|rM J J<|bndE h fun v3 e2 h=>r_callp J (rule_CheckSamples_c e2) (CoL.refl _) J<|n_buildSliceL (xs := ([v2,v3] : List Int).map I) J J J J J J<|bndE h fun v4 e3 h=>r_callp J (base_First_c e3) (CoL.refl _) J<|rA J J<|rN<|tS<|tS<|ATodo.cut (fun σ'=>∃ (c5 : Bool),rule_fault_j1 v4 c5 = some r ∧ σ' = ⟨22,[(7,I v4),(20,.bool c5)],[]⟩) ?_ ?_
  · refine tR<|rM J J<|ARun.qv (q_eql J J) J<|rM J J<|ARun.guard_dt J J J (fun hc=>?_) (fun hc=>?_)
    · rw [andTd hc] at h
      exact ARun.qv (q_load_ptr_all J J .p0 J) J<|rY J J J<|r_callp J (base_Window_c J) (CoL.refl _) J<|rY J J J<|ARun.qv (q_not J) J<|rT J J J<|rN<|ATodo.stop<|ImpX.lq [] ⟨!(base_Window p2x0),h,J⟩ J J
    · rw [andFd hc] at h
      exact rG J J J J<|rG J J J J<|rE J J J<|rN<|ATodo.stop<|ImpX.lq [] ⟨false,h,J⟩ J J
  · rintro σ' ⟨c5, h, rfl⟩
    unfold rule_fault_j1 at h
    refine ATodo.cut (fun σ'=>∃ (n6 : Int),rule_fault_j2 n6 = some r ∧ σ' = ⟨22,[(7,I n6)],[]⟩) ?_ ?_
    · refine ATodo.cond J (fun hc=>?_) (fun hc=>?_)
      · exact have h := iteT hc h; tR<|rA J J<|rN<|ATodo.stop<|ImpX.lq [] ⟨(1 : Int),h,J⟩ J J
      · exact have h := iteFb hc h; tK<|ATodo.stop<|ImpX.lq [] ⟨v4,h,J⟩ J J
    · rintro σ' ⟨n6, h, rfl⟩
      unfold rule_fault_j2 at h
      refine tSR<|rM J J<|rA J J<|rN<|ATodo.ret<|?_
      obtain rfl := Option.some.inj h
      exact ImpX.here ⟨_,.cons (.tmp _ _ J) .nil,J⟩

theorem slices_Sort_string_string_k : Sort1 Tryz.prog 213 (fun l=>Value.string ⟨l.toArray⟩) srtS := ⟨fun blk off cap zs w hH hb hs=>Tryz.slices_Sort_string blk off cap zs w hH hb hs,fun p cap w=>Tryz.slices_Sort_string_none p cap w⟩
theorem slices_Sort_string_string_c [GI : GTab] {b_0 : Bk} {p0x0 : List Str} {r : (List Str)} (h : slices_Sort_string_string p0x0 = some r) : ACall Tryz.prog 213 [.sl 1 b_0 0 p0x0.length] [(b_0,.arr 1 (p0x0.map AV.str))] (T0 [(b_0,.arr 1 (r.map AV.str))] (.tup [])) :=
  sort1_acall slices_Sort_string_string_k (g := AV.str) (fun h=>h.str_inv) (fun w S x=>.str _) (fun _=>J) (fun xs=>List.length_mergeSort _) (fun _=>J) h

theorem slices_Compact_string_string_c [GI : GTab] {b_0 : Bk} {p0x0 : List Str} {r : (List Str)} (h : slices_Compact_string_string p0x0 = some r) : ACall Tryz.prog 214 [.sl 1 b_0 0 p0x0.length] [(b_0,aE1 p0x0)] (T1 (fun d_0=>[(d_0,aE1 r)]) (fun d_0=>.sl 1 d_0 0 r.length)) := by
  unfold slices_Compact_string_string at h
  refine ACall.lessH ?_
  refine ACall.bodyN Tryz.func214 J Tryz.ntmps214 Tryz.results214 J J ?_
  refine tSR<|rA J J<|rN<|tS<|tSR<|rM J J<|ARun.qv (t_len_sl J) J<|ARun.qv (q_lss J J) J<|rN<|ATodo.cond_d J (fun hc=>?_) (fun hc=>?_)
  · refine have h := iteT hc h; tSR<|rM J J<|rA J J<|rN<|ATodo.ret<|?_
    obtain rfl := Option.some.inj h
    exact ImpX.here ⟨_,.cons (.tmp _ _ J) .nil,_,.cons .p0 .nil,⟨b_0,J,J⟩⟩
  · refine have h := iteF hc h; tK<|tS<|tSR<|rA J J<|rN<|ATodo.block<|ATodo.loopI (fun x : Int=>slices_Compact_string_string_b1 p0x0 x) (fun x σ'=>σ' = ⟨61,[(0,.sl 1 b_0 0 p0x0.length),(3,I x)],[(b_0,aE1 p0x0)]⟩) h ?_ ?_
    · exact ImpX.lq [0] J J J
    · intro n2 z1 σ' J1 hmk h hJ1 hA1
      obtain rfl := hmk
      replace h : slices_Compact_string_string_b1 p0x0 n2 = some z1 := h
      unfold slices_Compact_string_string_b1 at h
      refine tS<|tSR<|rM J J<|rM J J<|ARun.qv (t_len_sl J) J<|ARun.qv (q_lss J J) J<|rN<|ATodo.cond_d J (fun hc=>?_) (fun hc=>?_)
      · refine have h := iteT hc h; tK<|tS<|ATodo.block<|tS<|ATodo.regionM (id := 6) (A := [0,0,3,7,0,0,32,112,240,511]) 10 mixed J (by kernel_rfl) (by kernel_rfl)<|AM.qv (q_move J) J<|AM.qv (q_move J) J<|bndE h fun v3 e1 h=>AM.qv (t_index_sl J J J e1) J<|AM.qv (t_load_aptr (g := AV.str) J J (.inl .p0) e1 J) J<|AM.qv (q_move J) J<|AM.qv (q_move J) J<|AM.qv (q_subw J J) J<|bndE h fun v4 e2 h=>AM.qv (t_index_sl J J J e2) J<|AM.qv (t_load_aptr (g := AV.str) J J (.inl .p0) e2 J) J<|AM.qv (q_seq J J) J<|AM.nil<|rN<|ATodo.cond_d J (fun hc=>?_) (fun hc=>?_)
        · refine have h := iteT hc h; tSR<|rM J J<|rM J J<|bndE h fun l5 e3 h=>ARun.qv (t_slice_sl J J (.some _ _ _ J) .none J J e3) J<|rA J J<|rN<|tS<|tSR<|rA J J<|rN<|ATodo.block<|ATodo.loopI (fun x : (List Str) × Int × Int=>slices_Compact_string_string_b2 n2 l5 x.1 x.2.1 x.2.2) (fun x σ'=>σ' = ⟨61,[(0,.sl 1 b_0 0 x.1.length),(3,I x.2.1),(4,.sl 1 b_0 n2.toNat l5.length),(5,I x.2.2)],[(b_0,aE1 x.1)]⟩) h ?_ ?_
          · exact ImpX.lq [0] J J J
          · intro x z2 σ' J2 hmk h hJ2 hA2
            obtain ⟨l9, n10, n11⟩ := x
            obtain rfl := hmk
            replace h : slices_Compact_string_string_b2 n2 l5 l9 n10 n11 = some z2 := h
            unfold slices_Compact_string_string_b2 at h
            refine tS<|tSR<|rM J J<|rM J J<|ARun.qv (t_len_sub J) J<|ARun.qv (q_lss J J) J<|rN<|ATodo.cond_d J (fun hc=>?_) (fun hc=>?_)
            · refine have h := iteT hc h; tK<|tS<|ATodo.block<|tS<|ATodo.regionM (id := 11) (A := [0,0,3,7,0,0,32,112,240,511]) 10 mixed J (by kernel_rfl) (by kernel_rfl)<|AM.qv (q_move J) J<|AM.qv (q_move J) J<|bndE h fun v12 e4 h=>AM.qv (t_index_sub (L := n2) J J J e4) J<|AM.qv (t_load_aptr (g := AV.str) J J (.inl .p0) (idxS_some e4).2 J) J<|AM.qv (q_move J) J<|AM.qv (q_move J) J<|AM.qv (q_subw J J) J<|bndE h fun v13 e5 h=>AM.qv (t_index_sub (L := n2) J J J e5) J<|AM.qv (t_load_aptr (g := AV.str) J J (.inl .p0) (idxS_some e5).2 J) J<|AM.qv (q_sne J J) J<|AM.nil<|rN<|ATodo.cut (fun σ'=>∃ (l14 : List Str) (n15 : Int),slices_Compact_string_string_j1 n11 l14 n15 = some z2 ∧ σ' = ⟨61,[(0,.sl 1 b_0 0 l14.length),(3,I n15),(4,.sl 1 b_0 n2.toNat l5.length),(5,I n11)],[(b_0,aE1 l14)]⟩) ?_ ?_
              · refine ATodo.cond_d J (fun hc=>?_) (fun hc=>?_)
                · exact have h := iteT hc h; tSR<|rM J J<|rM J J<|rM J J<|rM J J<|bndE h fun v16 e6 h=>ARun.qv (t_index_sub (L := n2) J J J e6) J<|ARun.qv (t_load_aptr (g := AV.str) J J (.inl .p0) (idxS_some e6).2 J) J<|bndE h fun v17 e7 h=>ARun.qv (t_index_sl J J J e7) J<|t_store_aptr1 (g := AV.str) (el' := v16) J J J J e7 J .p0 J<|ARun.ghost<|ImpX.eqs (s := 0) (av' := .sl 1 b_0 0 (l9.set n10.toNat v16).length) J (by rw [List.length_set])<|ImpX.here<|ARun.ghost<|ImpX.eqs (s := 45) (av' := .sl 1 b_0 0 (l9.set n10.toNat v16).length) J (by rw [List.length_set])<|ImpX.here<|rN<|tR<|rM J J<|ARun.qv (q_addw J J) J<|rA J J<|rN<|ATodo.stop<|ImpX.lq [0] ⟨l9.set n10.toNat v16,w64 (n10 + (1 : Int)),h,J⟩ J J
                · exact have h := iteF hc h; tK<|ATodo.stop<|ImpX.lq [0] ⟨l9,n10,h,J⟩ J J
              · rintro σ' ⟨l14, n15, h, rfl⟩
                unfold slices_Compact_string_string_j1 at h
                refine ATodo.blk<|tR<|rM J J<|ARun.qv (q_addw J J) J<|rA J J<|rN<|ATodo.stop<|?_
                obtain rfl := Option.some.inj h
                exact hJ2 _ _ J<|ImpX.lq [0] J J J
            · refine have h := iteF hc h; ATodo.exit J<|have h := outL h hA2; ?_
              unfold slices_Compact_string_string_k2 at h
              refine tSR<|rM J J<|rM J J<|bndE h fun l18 e8 h=>ARun.qv (t_slice_sl J J (.some _ _ _ J) .none J J e8) J<|t_clear (g := AV.str) (Z := []) (L := n10) J J J J J J e8 .p0<|ARun.ghost<|ImpX.eqs (s := 0) (av' := .sl 1 b_0 0 (clr l9 n10 l18.length []).length) J (congrArg (AV.sl 1 b_0 0) (clr_len e8))<|ImpX.here<|ARun.ghost<|ImpX.eqs (s := 54) (av' := .sl 1 b_0 0 (clr l9 n10 l18.length []).length) J (congrArg (AV.sl 1 b_0 0) (clr_len e8))<|ImpX.here<|rN<|tSR<|rM J J<|rM J J<|bndE h fun l19 e9 h=>ARun.qv (t_slice_sl J J .none (.some _ _ _ J) J J e9) J<|rA J J<|ARun.ghost<|ImpX.takeT e9 .p0<|ImpX.here<|rN<|ATodo.ret<|have h := outL h hA1; ?_
              obtain rfl := Option.some.inj h
              exact ImpX.here ⟨_,.cons (.tmp _ _ J) .nil,_,.cons .p0 .nil,⟨b_0,J,J⟩⟩
        · refine have h := iteF hc h; tK<|ATodo.blk<|tR<|rM J J<|ARun.qv (q_addw J J) J<|rA J J<|rN<|ATodo.stop<|?_
          obtain rfl := Option.some.inj h
          exact hJ1 _ _ J<|ImpX.lq [0] J J J
      · refine have h := iteF hc h; ATodo.exit J<|have h := outL h hA1; tSR<|rM J J<|rA J J<|rN<|ATodo.ret<|?_
        obtain rfl := Option.some.inj h
        exact ImpX.here ⟨_,.cons (.tmp _ _ J) .nil,_,.cons .p0 .nil,⟨b_0,J,J⟩⟩

theorem rule_devices_c [GI : GTab] {p0x0 : List Sample} {p1x0 : Str} {r : (List Str)} (h : rule_devices p0x0 p1x0 = some r) : ACall Tryz.prog 162 [lE4 p0x0,.str p1x0] [] (T1 (fun d_0=>[(d_0,aE1 r)]) (fun d_0=>.sl 1 d_0 0 r.length)) := by
  unfold rule_devices at h
  refine ACall.lessH ?_
  refine ACall.bodyN Tryz.func162 J Tryz.ntmps162 Tryz.results162 J J ?_
  refine tSR<|rA J J<|rN<|tSR<|rA J J<|rN<|tS<|tSR<|rM J J<|ARun.qv (t_len J) J<|rM J J<|rN<|ATodo.block<|ATodo.loopI (fun x : (List Str) × Int=>rule_devices_b1 p0x0 p1x0 x.1 x.2) (fun x σ'=>∃ (b4 : Bk),σ' = ⟨28,[(1,.str p1x0),(5,.sl 1 b4 0 x.1.length),(8,lE4 p0x0),(9,I (p0x0.length : Int)),(10,I x.2)],[(b4,aE1 x.1)]⟩) h ?_ ?_
  · exact ImpX.arr (s := 5) 1 J fun b7=>ImpX.lq [0] ⟨b7,J⟩ J J
  · intro x z1 σ' J1 hmk h hJ1 hA1
    obtain ⟨l5, n6⟩ := x
    obtain ⟨b4, rfl⟩ := hmk
    replace h : rule_devices_b1 p0x0 p1x0 l5 n6 = some z1 := h
    unfold rule_devices_b1 at h
    refine tSR<|ARun.qv (q_lss J J) J<|rN<|tS<|ATodo.cond_d J (fun hc=>?_) (fun hc=>?_)
    · refine have h := iteT hc h; tK<|tS<|ATodo.block<|tSR<|bndE h fun v8 e1 h=>ARun.qv (t_index J J J e1 J J) J<|ARun.qv (q_load_rptr_agg J J J) J<|n_alloc J J J J fun b9=>n_store_ptr J J J J .p0 J J<|rN<|tSR<|rF J J J<|rL J J .p0 J J<|rM J J<|ARun.qv (q_seq J J) J<|rN<|ATodo.cut (fun σ'=>∃ (b10 : Bk) (l11 : List Str),rule_devices_j1 n6 l11 = some z1 ∧ σ' = ⟨28,[(1,.str p1x0),(5,.sl 1 b10 0 l11.length),(8,lE4 p0x0),(9,I (p0x0.length : Int)),(10,I n6)],[(b10,aE1 l11)]⟩) ?_ ?_
      · refine ATodo.cond_d J (fun hc=>?_) (fun hc=>?_)
        · exact have h := iteT hc h; tR<|rM J J<|rF J J J<|rL J J .p0 J J<|n_buildSliceL (xs := ([v8.Device] : List Str).map AV.str) J J J J J J<|bndE h fun l12 e2 h=>t_append (g := AV.str) J J J J J J J J (.list _) e2 (fun _=>.p1) J fun b13=>rA J J<|rN<|ATodo.stop<|ImpX.lq [1] ⟨b13,l12,h,J⟩ J J
        · exact have h := iteF hc h; tK<|ATodo.stop<|ImpX.lq [1] ⟨b4,l5,h,J⟩ J J
      · rintro σ' ⟨b10, l11, h, rfl⟩
        unfold rule_devices_j1 at h
        refine ATodo.blk<|tR<|ARun.qv (q_addw J J) J<|rM J J<|rN<|ATodo.stop<|?_
        obtain rfl := Option.some.inj h
        exact hJ1 _ _ J<|ImpX.lq [0] ⟨b10,J⟩ J J
    · refine have h := iteF hc h; ATodo.exit J<|have h := outL h hA1; ?_
      unfold rule_devices_k2 at h
      refine tSR<|rM J J<|bndE h fun v14 e3 h=>t_call0 J (slices_Sort_string_string_c (lenOk_f e3)) (CoL.refl _) (.cons .p0 .nil) J J<|ARun.ghost<|ImpX.eqs (s := 5) (av' := .sl 1 b4 0 v14.length) J (congrArg (AV.sl 1 b4 0) (lenOk_l e3))<|ImpX.here<|ARun.ghost<|ImpX.eqs (s := 24) (av' := .sl 1 b4 0 v14.length) J (congrArg (AV.sl 1 b4 0) (lenOk_l e3))<|ImpX.here<|rN<|tSR<|rM J J<|bndE h fun v15 e4 h=>t_call1 J (slices_Compact_string_string_c e4) (CoL.refl _) (.cons .p0 .nil) (fun _=>J) J fun b16=>rA J J<|rN<|ATodo.ret<|?_
      obtain rfl := Option.some.inj h
      exact ImpX.here ⟨_,.cons (.tmp _ _ J) .nil,_,.cons .p0 .nil,⟨b16,J,J⟩⟩

theorem rule_track_now_c [GI : GTab] {b_0 : Bk} {b_0x1 : Bk} {r_0x1 : List Rule_sample} {b_0x2 : Bk} {r_0x2 : List Rule_sample} {b_0x3 : Bk} {r_0x3 : List Rule_sample} {f_0x9F : Fn} {f_0x9C : List AV} {p0x0 : Rule_track} {r : Int} (h : rule_track_now p0x0 = some r) : ACall Tryz.prog 221 [.ptr b_0 0] [(b_0,.cells [.rptr [.str p0x0.rule_.Key,.str p0x0.rule_.Metric,I p0x0.rule_.Agg,I p0x0.rule_.Long,.bool p0x0.rule_.Above,I p0x0.rule_.On,I p0x0.rule_.Off,I p0x0.rule_.Hold,I p0x0.rule_.Rest,I p0x0.rule_.Empty],.sl 2 b_0x1 r_0x1.length p0x0.window_.length,.sl 2 b_0x2 r_0x2.length p0x0.least_.length,.sl 2 b_0x3 r_0x3.length p0x0.most_.length,I p0x0.sum_,I p0x0.state_,I p0x0.since_,.bool p0x0.firing_,I p0x0.began_,.func f_0x9F f_0x9C]),(b_0x1,aE5 (r_0x1 ++ p0x0.window_)),(b_0x2,aE5 (r_0x2 ++ p0x0.least_)),(b_0x3,aE5 (r_0x3 ++ p0x0.most_))] (T0 ([(b_0,.cells [.rptr [.str p0x0.rule_.Key,.str p0x0.rule_.Metric,I p0x0.rule_.Agg,I p0x0.rule_.Long,.bool p0x0.rule_.Above,I p0x0.rule_.On,I p0x0.rule_.Off,I p0x0.rule_.Hold,I p0x0.rule_.Rest,I p0x0.rule_.Empty],.sl 2 b_0x1 r_0x1.length p0x0.window_.length,.sl 2 b_0x2 r_0x2.length p0x0.least_.length,.sl 2 b_0x3 r_0x3.length p0x0.most_.length,I p0x0.sum_,I p0x0.state_,I p0x0.since_,.bool p0x0.firing_,I p0x0.began_,.func f_0x9F f_0x9C]),(b_0x1,aE5 (r_0x1 ++ p0x0.window_)),(b_0x2,aE5 (r_0x2 ++ p0x0.least_)),(b_0x3,aE5 (r_0x3 ++ p0x0.most_))]) (I r)) := by
  unfold rule_track_now at h
  refine ACall.lessH ?_
  refine ACall.bodyN Tryz.func221 J Tryz.ntmps221 Tryz.results221 J J ?_
  refine tSR<|rA J J<|rN<|tSR<|rM J J<|ARun.qv (q_nilCheck_ptr J) J<|rF J J J<|rL J J .p0 J J<|ARun.qv (q_len_sl J) J<|rA J J<|rN<|tS<|tS<|ATodo.cut (fun σ'=>∃ (c1 : Bool),rule_track_now_j1 p0x0 c1 = some r ∧ σ' = ⟨140,[(0,.ptr b_0 0),(3,I (p0x0.window_.length : Int)),(24,.bool c1)],[(b_0,.cells [.rptr [.str p0x0.rule_.Key,.str p0x0.rule_.Metric,I p0x0.rule_.Agg,I p0x0.rule_.Long,.bool p0x0.rule_.Above,I p0x0.rule_.On,I p0x0.rule_.Off,I p0x0.rule_.Hold,I p0x0.rule_.Rest,I p0x0.rule_.Empty],.sl 2 b_0x1 r_0x1.length p0x0.window_.length,.sl 2 b_0x2 r_0x2.length p0x0.least_.length,.sl 2 b_0x3 r_0x3.length p0x0.most_.length,I p0x0.sum_,I p0x0.state_,I p0x0.since_,.bool p0x0.firing_,I p0x0.began_,.func f_0x9F f_0x9C]),(b_0x1,aE5 (r_0x1 ++ p0x0.window_)),(b_0x2,aE5 (r_0x2 ++ p0x0.least_)),(b_0x3,aE5 (r_0x3 ++ p0x0.most_))]⟩) ?_ ?_
  · refine tR<|rM J J<|ARun.qv (q_eql J J) J<|rM J J<|ARun.guard_dt J J J (fun hc=>?_) (fun hc=>?_)
    · rw [andTd hc] at h
      exact rM J J<|rY J J J<|ARun.qv (q_nilCheck_ptr J) J<|rY J J J<|rF J J J<|rY J J J<|rL J J .p0 J J<|rY J J J<|ARun.qv (q_nilCheck_rptr J) J<|rY J J J<|ARun.qv (n_field_rptr J J) J<|rY J J J<|ARun.qv (q_load_rptr J J J) J<|rY J J J<|ARun.qv (q_neq J J) J<|rT J J J<|rN<|ATodo.stop<|ImpX.lq [0,0,0,0] ⟨decide (p0x0.rule_.Agg ≠ (5 : Int)),h,J⟩ J J
    · rw [andFd hc] at h
      exact rG J J J J<|rG J J J J<|rG J J J J<|rG J J J J<|rG J J J J<|rG J J J J<|rG J J J J<|rE J J J<|rN<|ATodo.stop<|ImpX.lq [0,0,0,0] ⟨false,h,J⟩ J J
  · rintro σ' ⟨c1, h, rfl⟩
    unfold rule_track_now_j1 at h
    refine ATodo.cond J (fun hc=>?_) (fun hc=>?_)
    · refine have h := iteT hc h; tSR<|n_buildSliceL (xs := ([(0 : Int),(2 : Int),(1 : Int)]).map I) J J J J J J<|rM J J<|ARun.qv (q_nilCheck_ptr J) J<|rF J J J<|rL J J .p0 J J<|ARun.qv (q_nilCheck_rptr J) J<|ARun.qv (n_field_rptr J J) J<|ARun.qv (q_load_rptr J J J) J<|bndE h fun v2 e1 h=>ARun.qv (t_index J J J e1 J J) J<|ARun.qv (q_load_rptr J J J) J<|rA J J<|rN<|ATodo.ret<|?_
      obtain rfl := Option.some.inj h
      exact ImpX.here ⟨_,.cons (.tmp _ _ J) .nil,_,.cons .p0 (.cons .p0 (.cons .p0 (.cons .p0 .nil))),⟨J,J⟩⟩
    · refine have h := iteFb hc h; tK<|tSR<|rA J J<|rA J J<|rN<|tS<|tSR<|rM J J<|ARun.qv (q_nilCheck_ptr J) J<|rF J J J<|rL J J .p0 J J<|ARun.qv (q_nilCheck_rptr J) J<|ARun.qv (n_field_rptr J J) J<|ARun.qv (q_load_rptr J J J) J<|rN<|ATodo.block<|tSR<|ARun.qv (q_eql J J) J<|rA J J<|rN<|ATodo.cut (fun σ'=>∃ (n3 : Int) (n4 : Int),rule_track_now_j2 p0x0 n3 n4 = some r ∧ σ' = ⟨140,[(0,.ptr b_0 0),(4,I n3),(5,I n4)],[(b_0,.cells [.rptr [.str p0x0.rule_.Key,.str p0x0.rule_.Metric,I p0x0.rule_.Agg,I p0x0.rule_.Long,.bool p0x0.rule_.Above,I p0x0.rule_.On,I p0x0.rule_.Off,I p0x0.rule_.Hold,I p0x0.rule_.Rest,I p0x0.rule_.Empty],.sl 2 b_0x1 r_0x1.length p0x0.window_.length,.sl 2 b_0x2 r_0x2.length p0x0.least_.length,.sl 2 b_0x3 r_0x3.length p0x0.most_.length,I p0x0.sum_,I p0x0.state_,I p0x0.since_,.bool p0x0.firing_,I p0x0.began_,.func f_0x9F f_0x9C]),(b_0x1,aE5 (r_0x1 ++ p0x0.window_)),(b_0x2,aE5 (r_0x2 ++ p0x0.least_)),(b_0x3,aE5 (r_0x3 ++ p0x0.most_))]⟩) ?_ ?_
      · refine ATodo.cond_d J (fun hc=>?_) (fun hc=>?_)
        · exact have h := iteT hc h; tR<|rM J J<|ARun.qv (q_nilCheck_ptr J) J<|rF J J J<|rL J J .p0 J J<|rM J J<|ARun.qv (q_subw J J) J<|bndE h fun v5 e2 h=>ARun.qv (t_index_dq (Ps := r_0x1) (Xs := p0x0.window_) J J J e2) J<|ARun.qv (t_field_aptr J J) J<|ARun.qv (t_load_dq (g := Rule_sample.av) (Ps := r_0x1) (Xs := p0x0.window_) J J .p1 e2 J) J<|rA J J<|rN<|ATodo.stop<|ImpX.lq [0,0,0,0] ⟨v5.value_,(1 : Int),h,J⟩ J J
        · refine have h := iteF hc h; tSR<|ARun.qv (q_eql J J) J<|rA J J<|rN<|ATodo.cut (fun σ'=>∃ (n6 : Int) (n7 : Int),rule_track_now_j3 p0x0 n6 n7 = some r ∧ σ' = ⟨140,[(0,.ptr b_0 0),(4,I n6),(5,I n7)],[(b_0,.cells [.rptr [.str p0x0.rule_.Key,.str p0x0.rule_.Metric,I p0x0.rule_.Agg,I p0x0.rule_.Long,.bool p0x0.rule_.Above,I p0x0.rule_.On,I p0x0.rule_.Off,I p0x0.rule_.Hold,I p0x0.rule_.Rest,I p0x0.rule_.Empty],.sl 2 b_0x1 r_0x1.length p0x0.window_.length,.sl 2 b_0x2 r_0x2.length p0x0.least_.length,.sl 2 b_0x3 r_0x3.length p0x0.most_.length,I p0x0.sum_,I p0x0.state_,I p0x0.since_,.bool p0x0.firing_,I p0x0.began_,.func f_0x9F f_0x9C]),(b_0x1,aE5 (r_0x1 ++ p0x0.window_)),(b_0x2,aE5 (r_0x2 ++ p0x0.least_)),(b_0x3,aE5 (r_0x3 ++ p0x0.most_))]⟩) ?_ ?_
          · refine ATodo.cond_d J (fun hc=>?_) (fun hc=>?_)
            · exact have h := iteT hc h; tR<|rM J J<|ARun.qv (q_nilCheck_ptr J) J<|rF J J J<|rL J J .p0 J J<|bndE h fun v8 e3 h=>ARun.qv (t_index_dq (Ps := r_0x2) (Xs := p0x0.least_) J J J e3) J<|ARun.qv (t_field_aptr J J) J<|ARun.qv (t_load_dq (g := Rule_sample.av) (Ps := r_0x2) (Xs := p0x0.least_) J J .p2 e3 J) J<|rA J J<|rN<|ATodo.stop<|ImpX.lq [0,0,0,0] ⟨v8.value_,(1 : Int),h,J⟩ J J
            · refine have h := iteF hc h; tSR<|ARun.qv (q_eql J J) J<|rA J J<|rN<|ATodo.cut (fun σ'=>∃ (n9 : Int) (n10 : Int),rule_track_now_j4 p0x0 n9 n10 = some r ∧ σ' = ⟨140,[(0,.ptr b_0 0),(4,I n9),(5,I n10)],[(b_0,.cells [.rptr [.str p0x0.rule_.Key,.str p0x0.rule_.Metric,I p0x0.rule_.Agg,I p0x0.rule_.Long,.bool p0x0.rule_.Above,I p0x0.rule_.On,I p0x0.rule_.Off,I p0x0.rule_.Hold,I p0x0.rule_.Rest,I p0x0.rule_.Empty],.sl 2 b_0x1 r_0x1.length p0x0.window_.length,.sl 2 b_0x2 r_0x2.length p0x0.least_.length,.sl 2 b_0x3 r_0x3.length p0x0.most_.length,I p0x0.sum_,I p0x0.state_,I p0x0.since_,.bool p0x0.firing_,I p0x0.began_,.func f_0x9F f_0x9C]),(b_0x1,aE5 (r_0x1 ++ p0x0.window_)),(b_0x2,aE5 (r_0x2 ++ p0x0.least_)),(b_0x3,aE5 (r_0x3 ++ p0x0.most_))]⟩) ?_ ?_
              · refine ATodo.cond_d J (fun hc=>?_) (fun hc=>?_)
                · exact have h := iteT hc h; tR<|rM J J<|ARun.qv (q_nilCheck_ptr J) J<|rF J J J<|rL J J .p0 J J<|bndE h fun v11 e4 h=>ARun.qv (t_index_dq (Ps := r_0x3) (Xs := p0x0.most_) J J J e4) J<|ARun.qv (t_field_aptr J J) J<|ARun.qv (t_load_dq (g := Rule_sample.av) (Ps := r_0x3) (Xs := p0x0.most_) J J .p3 e4 J) J<|rA J J<|rN<|ATodo.stop<|ImpX.lq [0,0,0,0] ⟨v11.value_,(1 : Int),h,J⟩ J J
                · refine have h := iteF hc h; tSR<|ARun.qv (q_eql J J) J<|rA J J<|rN<|ATodo.cut (fun σ'=>∃ (n12 : Int) (n13 : Int),rule_track_now_j5 p0x0 n12 n13 = some r ∧ σ' = ⟨140,[(0,.ptr b_0 0),(4,I n12),(5,I n13)],[(b_0,.cells [.rptr [.str p0x0.rule_.Key,.str p0x0.rule_.Metric,I p0x0.rule_.Agg,I p0x0.rule_.Long,.bool p0x0.rule_.Above,I p0x0.rule_.On,I p0x0.rule_.Off,I p0x0.rule_.Hold,I p0x0.rule_.Rest,I p0x0.rule_.Empty],.sl 2 b_0x1 r_0x1.length p0x0.window_.length,.sl 2 b_0x2 r_0x2.length p0x0.least_.length,.sl 2 b_0x3 r_0x3.length p0x0.most_.length,I p0x0.sum_,I p0x0.state_,I p0x0.since_,.bool p0x0.firing_,I p0x0.began_,.func f_0x9F f_0x9C]),(b_0x1,aE5 (r_0x1 ++ p0x0.window_)),(b_0x2,aE5 (r_0x2 ++ p0x0.least_)),(b_0x3,aE5 (r_0x3 ++ p0x0.most_))]⟩) ?_ ?_
                  · refine ATodo.cond_d J (fun hc=>?_) (fun hc=>?_)
                    · exact have h := iteT hc h; tR<|rM J J<|ARun.qv (q_nilCheck_ptr J) J<|rF J J J<|rL J J .p0 J J<|rM J J<|rA J J<|rA J J<|rN<|ATodo.stop<|ImpX.lq [0,0,0,0] ⟨p0x0.sum_,(p0x0.window_.length : Int),h,J⟩ J J
                    · refine have h := iteF hc h; tSR<|ARun.qv (q_eql J J) J<|rA J J<|rN<|ATodo.cut (fun σ'=>∃ (n14 : Int),rule_track_now_j6 p0x0 n14 = some r ∧ σ' = ⟨140,[(0,.ptr b_0 0),(4,I n14),(5,I (1 : Int))],[(b_0,.cells [.rptr [.str p0x0.rule_.Key,.str p0x0.rule_.Metric,I p0x0.rule_.Agg,I p0x0.rule_.Long,.bool p0x0.rule_.Above,I p0x0.rule_.On,I p0x0.rule_.Off,I p0x0.rule_.Hold,I p0x0.rule_.Rest,I p0x0.rule_.Empty],.sl 2 b_0x1 r_0x1.length p0x0.window_.length,.sl 2 b_0x2 r_0x2.length p0x0.least_.length,.sl 2 b_0x3 r_0x3.length p0x0.most_.length,I p0x0.sum_,I p0x0.state_,I p0x0.since_,.bool p0x0.firing_,I p0x0.began_,.func f_0x9F f_0x9C]),(b_0x1,aE5 (r_0x1 ++ p0x0.window_)),(b_0x2,aE5 (r_0x2 ++ p0x0.least_)),(b_0x3,aE5 (r_0x3 ++ p0x0.most_))]⟩) ?_ ?_
                      · refine ATodo.cond_d J (fun hc=>?_) (fun hc=>?_)
                        · exact have h := iteT hc h; tR<|rM J J<|rA J J<|rN<|ATodo.stop<|ImpX.lq [0,0,0,0] ⟨(p0x0.window_.length : Int),h,J⟩ J J
                        · refine have h := iteF hc h; tSR<|ARun.qv (q_eql J J) J<|rA J J<|rN<|ATodo.cut (fun σ'=>∃ (n15 : Int),rule_track_now_j7 p0x0 n15 = some r ∧ σ' = ⟨140,[(0,.ptr b_0 0),(4,I n15),(5,I (1 : Int))],[(b_0,.cells [.rptr [.str p0x0.rule_.Key,.str p0x0.rule_.Metric,I p0x0.rule_.Agg,I p0x0.rule_.Long,.bool p0x0.rule_.Above,I p0x0.rule_.On,I p0x0.rule_.Off,I p0x0.rule_.Hold,I p0x0.rule_.Rest,I p0x0.rule_.Empty],.sl 2 b_0x1 r_0x1.length p0x0.window_.length,.sl 2 b_0x2 r_0x2.length p0x0.least_.length,.sl 2 b_0x3 r_0x3.length p0x0.most_.length,I p0x0.sum_,I p0x0.state_,I p0x0.since_,.bool p0x0.firing_,I p0x0.began_,.func f_0x9F f_0x9C]),(b_0x1,aE5 (r_0x1 ++ p0x0.window_)),(b_0x2,aE5 (r_0x2 ++ p0x0.least_)),(b_0x3,aE5 (r_0x3 ++ p0x0.most_))]⟩) ?_ ?_
                          · refine ATodo.cond_d J (fun hc=>?_) (fun hc=>?_)
                            · exact have h := iteT hc h; ATodo.regionM (id := 17) (A := [0,1,3,7,0,16,63,127,255,0,512,1536,3584,7680,15872,32256,65535,131071]) 18 mixed J (by kernel_rfl) (by kernel_rfl)<|AM.qv (q_move J) J<|AM.qv (q_nilCheck_ptr J) J<|AM.qv (n_field_ptr J J) J<|AM.qv (q_load_ptr J J .p0 J) J<|AM.qv (q_move J) J<|AM.qv (q_subw J J) J<|bndE h fun v16 e5 h=>AM.qv (t_index_dq (Ps := r_0x1) (Xs := p0x0.window_) J J J e5) J<|AM.qv (t_field_aptr J J) J<|AM.qv (t_load_dq (g := Rule_sample.av) (Ps := r_0x1) (Xs := p0x0.window_) J J .p1 e5 J) J<|AM.qv (q_move J) J<|AM.qv (q_nilCheck_ptr J) J<|AM.qv (n_field_ptr J J) J<|AM.qv (q_load_ptr J J .p0 J) J<|bndE h fun v17 e6 h=>AM.qv (t_index_dq (Ps := r_0x1) (Xs := p0x0.window_) J J J e6) J<|AM.qv (t_field_aptr J J) J<|AM.qv (t_load_dq (g := Rule_sample.av) (Ps := r_0x1) (Xs := p0x0.window_) J J .p1 e6 J) J<|AM.qv (q_subw J J) J<|AM.qv (q_assign J) J<|AM.nil<|rN<|ATodo.stop<|ImpX.lq [0,0,0,0] ⟨w64 (v16.value_ - v17.value_),h,J⟩ J J
                            · exact have h := iteF hc h; tK<|ATodo.stop<|ImpX.lq [0,0,0,0] ⟨(0 : Int),h,J⟩ J J
                          · rintro σ' ⟨n15, h, rfl⟩
                            unfold rule_track_now_j7 at h
                            exact ATodo.stop<|ImpX.lq [0,0,0,0] ⟨n15,h,J⟩ J J
                      · rintro σ' ⟨n14, h, rfl⟩
                        unfold rule_track_now_j6 at h
                        exact ATodo.stop<|ImpX.lq [0,0,0,0] ⟨n14,(1 : Int),h,J⟩ J J
                  · rintro σ' ⟨n12, n13, h, rfl⟩
                    unfold rule_track_now_j5 at h
                    exact ATodo.stop<|ImpX.lq [0,0,0,0] ⟨n12,n13,h,J⟩ J J
              · rintro σ' ⟨n9, n10, h, rfl⟩
                unfold rule_track_now_j4 at h
                exact ATodo.stop<|ImpX.lq [0,0,0,0] ⟨n9,n10,h,J⟩ J J
          · rintro σ' ⟨n6, n7, h, rfl⟩
            unfold rule_track_now_j3 at h
            exact ATodo.stop<|ImpX.lq [0,0,0,0] ⟨n6,n7,h,J⟩ J J
      · rintro σ' ⟨n3, n4, h, rfl⟩
        unfold rule_track_now_j2 at h
        refine ATodo.blk<|tS<|ATodo.regionM (id := 18) (A := [0,1,3,7,15,31,63,0,255,0,512,1536,3584,7680,15872,32256,0,130560,511,524287]) 20 mixed J (by kernel_rfl) (by kernel_rfl)<|AM.qv (q_move J) J<|AM.qv (q_nilCheck_ptr J) J<|AM.qv (n_field_ptr J J) J<|AM.qv (q_load_ptr J J .p0 J) J<|AM.qv (q_nilCheck_rptr J) J<|AM.qv (n_field_rptr J J) J<|AM.qv (q_load_rptr J J J) J<|AM.qv (q_move J) J<|AM.qv (q_mulw J J) J<|AM.qv (q_move J) J<|AM.qv (q_nilCheck_ptr J) J<|AM.qv (n_field_ptr J J) J<|AM.qv (q_load_ptr J J .p0 J) J<|AM.qv (q_nilCheck_rptr J) J<|AM.qv (n_field_rptr J J) J<|AM.qv (q_load_rptr J J J) J<|AM.qv (q_move J) J<|AM.qv (q_mulw J J) J<|AM.qv (q_assign J) J<|AM.qv (q_assign J) J<|AM.nil<|rN<|tS<|tSR<|rM J J<|ARun.qv (q_nilCheck_ptr J) J<|rF J J J<|rL J J .p0 J J<|ARun.qv (q_nilCheck_rptr J) J<|ARun.qv (n_field_rptr J J) J<|ARun.qv (q_load_rptr J J J) J<|ARun.qv (q_not J) J<|rN<|ATodo.cut (fun σ'=>∃ (n18 : Int) (n19 : Int) (n20 : Int),rule_track_now_j8 n18 n19 n20 = some r ∧ σ' = ⟨140,[(4,I n18),(6,I n19),(7,I n20)],[(b_0,.cells [.rptr [.str p0x0.rule_.Key,.str p0x0.rule_.Metric,I p0x0.rule_.Agg,I p0x0.rule_.Long,.bool p0x0.rule_.Above,I p0x0.rule_.On,I p0x0.rule_.Off,I p0x0.rule_.Hold,I p0x0.rule_.Rest,I p0x0.rule_.Empty],.sl 2 b_0x1 r_0x1.length p0x0.window_.length,.sl 2 b_0x2 r_0x2.length p0x0.least_.length,.sl 2 b_0x3 r_0x3.length p0x0.most_.length,I p0x0.sum_,I p0x0.state_,I p0x0.since_,.bool p0x0.firing_,I p0x0.began_,.func f_0x9F f_0x9C]),(b_0x1,aE5 (r_0x1 ++ p0x0.window_)),(b_0x2,aE5 (r_0x2 ++ p0x0.least_)),(b_0x3,aE5 (r_0x3 ++ p0x0.most_))]⟩) ?_ ?_
        · refine ATodo.cond J (fun hc=>?_) (fun hc=>?_)
          · exact have h := iteT hc h; tR<|rM J J<|ARun.qv (t_negw J) J<|rM J J<|ARun.qv (t_negw J) J<|rM J J<|ARun.qv (t_negw J) J<|rA J J<|rA J J<|rA J J<|rN<|ATodo.stop<|ImpX.lq [0,0,0,0] ⟨w64 (-n3),w64 (-(w64 (p0x0.rule_.On * n4))),w64 (-(w64 (p0x0.rule_.Off * n4))),h,J⟩ J J
          · exact have h := iteFb hc h; tK<|ATodo.stop<|ImpX.lq [0,0,0,0] ⟨n3,w64 (p0x0.rule_.On * n4),w64 (p0x0.rule_.Off * n4),h,J⟩ J J
        · rintro σ' ⟨n18, n19, n20, h, rfl⟩
          unfold rule_track_now_j8 at h
          refine tS<|ATodo.block<|tSR<|rM J J<|rM J J<|ARun.qv (q_geq J J) J<|rA J J<|rN<|ATodo.cond_d J (fun hc=>?_) (fun hc=>?_)
          · refine have h := iteT hc h; tSR<|rA J J<|rN<|ATodo.ret<|?_
            obtain rfl := Option.some.inj h
            exact ImpX.here ⟨_,.cons (.tmp _ _ J) .nil,_,.cons .p0 (.cons .p0 (.cons .p0 (.cons .p0 .nil))),⟨J,J⟩⟩
          · refine have h := iteF hc h; tSR<|rM J J<|rM J J<|ARun.qv (q_lss J J) J<|rA J J<|rN<|ATodo.cond_d J (fun hc=>?_) (fun hc=>?_)
            · refine have h := iteT hc h; tSR<|rA J J<|rN<|ATodo.ret<|?_
              obtain rfl := Option.some.inj h
              exact ImpX.here ⟨_,.cons (.tmp _ _ J) .nil,_,.cons .p0 (.cons .p0 (.cons .p0 (.cons .p0 .nil))),⟨J,J⟩⟩
            · refine have h := iteF hc h; tK<|ATodo.blk<|tSR<|rA J J<|rN<|ATodo.ret<|?_
              obtain rfl := Option.some.inj h
              exact ImpX.here ⟨_,.cons (.tmp _ _ J) .nil,_,.cons .p0 (.cons .p0 (.cons .p0 (.cons .p0 .nil))),⟨J,J⟩⟩

end Go.Proofs.YtkggljololbmiaaGreatDoor

