/- The code computes the plain functions: proofs written by shal.py. -/
import Derived.Test.YtppnalkmokajgaaGreatDoorRloP
import Derived.Test.YtppnalkmokajgaaGreatDoorLib
set_option maxHeartbeats 4000000
set_option maxRecDepth 100000
set_option linter.unusedVariables false
set_option linter.unusedSimpArgs false
namespace Go.Proofs.YtppnalkmokajgaaGreatDoor
open Go Go.Eng Go.Proofs Go.Beacon
attribute [local irreducible] ARun ATodo AQ QV ACall ImpX AWp AM
instance eqg58 : EqGd Tryz.prog 58 := ⟨by kernel_rfl⟩
instance eqt58 : EqTy Tryz.prog 58 2 Spell.av := ⟨fun x y w S v u hv hu=>by
  obtain ⟨vs, rfl, hl, ha⟩ := At.agg_inv hv
  obtain ⟨us, rfl, hl', ha'⟩ := At.agg_inv hu
  obtain ⟨v0, p0, q0⟩ := AtA.get hl ha (off := 0) rfl
  obtain ⟨u0, p0', q0'⟩ := AtA.get hl' ha' (off := 0) rfl
  obtain ⟨v1, p1, q1⟩ := AtA.get hl ha (off := 1) rfl
  obtain ⟨u1, p1', q1'⟩ := AtA.get hl' ha' (off := 1) rfl
  obtain ⟨v2, p2, q2⟩ := AtA.get hl ha (off := 2) rfl
  obtain ⟨u2, p2', q2'⟩ := AtA.get hl' ha' (off := 2) rfl
  obtain ⟨v3, p3, q3⟩ := AtA.get hl ha (off := 3) rfl
  obtain ⟨u3, p3', q3'⟩ := AtA.get hl' ha' (off := 3) rfl
  refine EqR.cast (EqR.struct Tryz.underlying58 (by kernel_rfl) (.cons (by decide) (part_one J p0) (part_one J p0') (EqR.up (EqTy.h (g := AV.str) x.Device y.Device w S _ _ q0 q0') 0)  (.cons (by decide) (part_one J p1) (part_one J p1') (EqR.up (EqTy.h (g := AV.str) x.Rule y.Rule w S _ _ q1 q1') 0)  (.cons (by decide) (part_one J p2) (part_one J p2') (EqR.up (EqTy.h (g := I) x.From y.From w S _ _ q2 q2') 0)  (.cons (by decide) (part_one J p3) (part_one J p3') (EqR.up (EqTy.h (g := I) x.To y.To w S _ _ q3 q3') 0) .nil))))) ?_
  obtain ⟨_, _, _, _⟩ := x
  obtain ⟨_, _, _, _⟩ := y
  rw [Bool.eq_iff_iff]; simp [and_assoc]⟩
instance eqg66 : EqGd Tryz.prog 66 := ⟨by kernel_rfl⟩
instance eqt66 : EqTy Tryz.prog 66 2 Sample.av := ⟨fun x y w S v u hv hu=>by
  obtain ⟨vs, rfl, hl, ha⟩ := At.agg_inv hv
  obtain ⟨us, rfl, hl', ha'⟩ := At.agg_inv hu
  obtain ⟨v0, p0, q0⟩ := AtA.get hl ha (off := 0) rfl
  obtain ⟨u0, p0', q0'⟩ := AtA.get hl' ha' (off := 0) rfl
  obtain ⟨v1, p1, q1⟩ := AtA.get hl ha (off := 1) rfl
  obtain ⟨u1, p1', q1'⟩ := AtA.get hl' ha' (off := 1) rfl
  obtain ⟨v2, p2, q2⟩ := AtA.get hl ha (off := 2) rfl
  obtain ⟨u2, p2', q2'⟩ := AtA.get hl' ha' (off := 2) rfl
  obtain ⟨v3, p3, q3⟩ := AtA.get hl ha (off := 3) rfl
  obtain ⟨u3, p3', q3'⟩ := AtA.get hl' ha' (off := 3) rfl
  refine EqR.cast (EqR.struct Tryz.underlying66 (by kernel_rfl) (.cons (by decide) (part_one J p0) (part_one J p0') (EqR.up (EqTy.h (g := AV.str) x.Device y.Device w S _ _ q0 q0') 0)  (.cons (by decide) (part_one J p1) (part_one J p1') (EqR.up (EqTy.h (g := AV.str) x.Metric y.Metric w S _ _ q1 q1') 0)  (.cons (by decide) (part_one J p2) (part_one J p2') (EqR.up (EqTy.h (g := I) x.At y.At w S _ _ q2 q2') 0)  (.cons (by decide) (part_one J p3) (part_one J p3') (EqR.up (EqTy.h (g := I) x.Value y.Value w S _ _ q3 q3') 0) .nil))))) ?_
  obtain ⟨_, _, _, _⟩ := x
  obtain ⟨_, _, _, _⟩ := y
  rw [Bool.eq_iff_iff]; simp [and_assoc]⟩
instance eqg75 : EqGd Tryz.prog 75 := ⟨by kernel_rfl⟩
instance eqt75 : EqTy Tryz.prog 75 2 Fraction.av := ⟨fun x y w S v u hv hu=>by
  obtain ⟨vs, rfl, hl, ha⟩ := At.agg_inv hv
  obtain ⟨us, rfl, hl', ha'⟩ := At.agg_inv hu
  obtain ⟨v0, p0, q0⟩ := AtA.get hl ha (off := 0) rfl
  obtain ⟨u0, p0', q0'⟩ := AtA.get hl' ha' (off := 0) rfl
  obtain ⟨v1, p1, q1⟩ := AtA.get hl ha (off := 1) rfl
  obtain ⟨u1, p1', q1'⟩ := AtA.get hl' ha' (off := 1) rfl
  refine EqR.cast (EqR.struct Tryz.underlying75 (by kernel_rfl) (.cons (by decide) (part_one J p0) (part_one J p0') (EqR.up (EqTy.h (g := I) x.Num y.Num w S _ _ q0 q0') 0)  (.cons (by decide) (part_one J p1) (part_one J p1') (EqR.up (EqTy.h (g := I) x.Den y.Den w S _ _ q1 q1') 0) .nil))) ?_
  obtain ⟨_, _⟩ := x
  obtain ⟨_, _⟩ := y
  rw [Bool.eq_iff_iff]; simp [and_assoc]⟩
instance eqg149 : EqGd Tryz.prog 149 := ⟨by kernel_rfl⟩
instance eqt149 : EqTy Tryz.prog 149 2 Rule_sample.av := ⟨fun x y w S v u hv hu=>by
  obtain ⟨vs, rfl, hl, ha⟩ := At.agg_inv hv
  obtain ⟨us, rfl, hl', ha'⟩ := At.agg_inv hu
  obtain ⟨v0, p0, q0⟩ := AtA.get hl ha (off := 0) rfl
  obtain ⟨u0, p0', q0'⟩ := AtA.get hl' ha' (off := 0) rfl
  obtain ⟨v1, p1, q1⟩ := AtA.get hl ha (off := 1) rfl
  obtain ⟨u1, p1', q1'⟩ := AtA.get hl' ha' (off := 1) rfl
  refine EqR.cast (EqR.struct Tryz.underlying149 (by kernel_rfl) (.cons (by decide) (part_one J p0) (part_one J p0') (EqR.up (EqTy.h (g := I) x.at_ y.at_ w S _ _ q0 q0') 0)  (.cons (by decide) (part_one J p1) (part_one J p1') (EqR.up (EqTy.h (g := I) x.value_ y.value_ w S _ _ q1 q1') 0) .nil))) ?_
  obtain ⟨_, _⟩ := x
  obtain ⟨_, _⟩ := y
  rw [Bool.eq_iff_iff]; simp [and_assoc]⟩
abbrev lE0 (xs : List Int) : AV := .list 1 (xs.map I)
abbrev lE1 (xs : List Str) : AV := .list 1 (xs.map AV.str)
abbrev aE2 (xs : List Rule) : Ob := .arr 10 (xs.map Rule.av)
abbrev aE3 (xs : List Sample) : Ob := .arr 4 (xs.map Sample.av)
abbrev cE0 (x : Sample) : List AV := [.str x.Device,.str x.Metric,I x.At,I x.Value]
abbrev lE3 (xs : List Sample) : AV := .list 4 (xs.map Sample.av)
abbrev lE4 (xs : List (List Sample)) : AV := .list 1 (xs.map (encL 4 Sample.av))
abbrev lE2 (xs : List Rule) : AV := .list 10 (xs.map Rule.av)
abbrev cE1 (x : Rule) : List AV := [.str x.Key,.str x.Metric,I x.Agg,I x.Long,.bool x.Above,I x.On,I x.Off,I x.Hold,I x.Rest,I x.Empty]
abbrev aE5 (xs : List Rule_sample) : Ob := .arr 2 (xs.map Rule_sample.av)
abbrev aE1 (xs : List Str) : Ob := .arr 1 (xs.map AV.str)
abbrev aE6 (xs : List Rule_span) : Ob := .arr 2 (xs.map Rule_span.av)
abbrev lE5 (xs : List Rule_sample) : AV := .list 2 (xs.map Rule_sample.av)
abbrev aE7 (xs : List Spell) : Ob := .arr 4 (xs.map Spell.av)
abbrev lE7 (xs : List Spell) : AV := .list 4 (xs.map Spell.av)
abbrev aE0 (xs : List Int) : Ob := .arr 1 (xs.map I)
theorem Below_c [GI : GTab] {p0x0 : Int} {p1x0 : Int} {r : Int} (h : Below p0x0 p1x0 = some r) : Pu Tryz.prog 92 [I p0x0,I p1x0] (I r) := by
  unfold Below at h
  refine ACall.bodyN Tryz.func92 J Tryz.ntmps92 Tryz.results92 J J ?_
  refine tSR<|rA J J<|rN<|tS<|tSR<|rM J J<|ARun.qv (q_lss J J) J<|rN<|ATodo.cond_d J (fun hc=>?_) (fun hc=>?_)
  · refine have h := iteT hc h; tSR<|rA J J<|rN<|ATodo.ret<|?_
    obtain rfl := Option.some.inj h
    exact ImpX.here ⟨_,.cons (.tmp _ _ J) .nil,J⟩
  · refine have h := iteF hc h; tK<|tSR<|rM J J<|rM J J<|bndE h fun n1 e1 h=>ARun.qv (t_remS J J e1) J<|rA J J<|rN<|tS<|tSR<|rM J J<|ARun.qv (q_lss J J) J<|rN<|ATodo.cut (fun σ'=>∃ (n2 : Int),Below_j1 n2 = some r ∧ σ' = ⟨16,[(0,I n2)],[]⟩) ?_ ?_
    · refine ATodo.cond_d J (fun hc=>?_) (fun hc=>?_)
      · exact have h := iteT hc h; tR<|rM J J<|rM J J<|ARun.qv (q_addw J J) J<|rA J J<|rN<|ATodo.stop<|ImpX.lq [] ⟨w64 (n1 + p1x0),h,J⟩ J J
      · exact have h := iteF hc h; tK<|ATodo.stop<|ImpX.lq [] ⟨n1,h,J⟩ J J
    · rintro σ' ⟨n2, h, rfl⟩
      unfold Below_j1 at h
      refine tSR<|rM J J<|rA J J<|rN<|ATodo.ret<|?_
      obtain rfl := Option.some.inj h
      exact ImpX.here ⟨_,.cons (.tmp _ _ J) .nil,J⟩

theorem Stream_Next_c [GI : GTab] {b_0 : Bk} {p0x0 : Fleetmake_Stream} {p1x0 : Int} {r : Int × Fleetmake_Stream} (h : Stream_Next p0x0 p1x0 = some r) : ACall Tryz.prog 35 [.ptr b_0 0,I p1x0] [(b_0,.cells [lE0 p0x0.L,I p0x0.at_])] (T0 ([(b_0,.cells [lE0 r.2.L,I r.2.at_])]) (I r.1)) := by
  unfold Stream_Next at h
  refine ACall.lessH ?_
  refine ACall.bodyN Tryz.func35 J Tryz.ntmps35 Tryz.results35 J J ?_
  refine tSR<|rA J J<|rN<|tSR<|rM J J<|ARun.qv (q_nilCheck_ptr J) J<|rF J J J<|rL J J .p0 J J<|ARun.qv (q_addw J J) J<|ARun.qv (q_nilCheck_ptr J) J<|rF J J J<|n_store_ptr J J J J .p0 J J<|rN<|tS<|tSR<|rM J J<|ARun.qv (q_nilCheck_ptr J) J<|rF J J J<|rL J J .p0 J J<|ARun.qv (t_len J) J<|ARun.qv (q_eql J J) J<|rN<|ATodo.cond_d J (fun hc=>?_) (fun hc=>?_)
  · refine have h := iteT hc h; tSR<|rM J J<|ARun.qv (q_nilCheck_ptr J) J<|rF J J J<|rL J J .p0 J J<|ARun.qv (q_mulw J J) J<|rM J J<|bndE h fun v1 e1 h=>r_callp J (Below_c e1) (CoL.refl _) J<|rA J J<|rN<|ATodo.ret<|?_
    obtain rfl := Option.some.inj h
    exact ImpX.here ⟨_,.cons (.tmp _ _ J) .nil,_,.cons .p0 .nil,⟨J,J⟩⟩
  · refine have h := iteF hc h; tK<|tS<|ATodo.regionM (id := 4) (A := [0,1,3,7,15,0,32,96,224,480,1023,2047]) 12 mixed J (by kernel_rfl) (by kernel_rfl)<|AM.qv (q_move J) J<|AM.qv (q_nilCheck_ptr J) J<|AM.qv (n_field_ptr J J) J<|AM.qv (q_load_ptr J J .p0 J) J<|AM.qv (q_subw J J) J<|AM.qv (q_move J) J<|AM.qv (q_nilCheck_ptr J) J<|AM.qv (n_field_ptr J J) J<|AM.qv (q_load_ptr J J .p0 J) J<|AM.qv (t_len J) J<|bndE h fun n2 e2 h=>AM.qv (t_remS J J e2) J<|AM.qv (q_assign J) J<|AM.nil<|rN<|tS<|ATodo.regionM (id := 5) (A := [0,1,3,7,15,0,32,96,224,480,1023,2047]) 12 mixed J (by kernel_rfl) (by kernel_rfl)<|AM.qv (q_move J) J<|AM.qv (q_nilCheck_ptr J) J<|AM.qv (n_field_ptr J J) J<|AM.qv (q_load_ptr J J .p0 J) J<|AM.qv (q_subw J J) J<|AM.qv (q_move J) J<|AM.qv (q_nilCheck_ptr J) J<|AM.qv (n_field_ptr J J) J<|AM.qv (q_load_ptr J J .p0 J) J<|AM.qv (t_len J) J<|bndE h fun n3 e3 h=>AM.qv (t_quoS J J e3) J<|AM.qv (q_assign J) J<|AM.nil<|rN<|tSR<|rM J J<|ARun.qv (q_nilCheck_ptr J) J<|rF J J J<|rL J J .p0 J J<|rM J J<|bndE h fun v4 e4 h=>ARun.qv (t_index J J J e4 J J) J<|ARun.qv (q_load_rptr J J J) J<|bndE h fun v5 e5 h=>r_callp J (Below_c e5) (CoL.refl _) J<|rM J J<|rM J J<|ARun.qv (q_addw J J) J<|ARun.qv (q_mulw J J) J<|ARun.qv (q_addw J J) J<|rM J J<|bndE h fun v6 e6 h=>r_callp J (Below_c e6) (CoL.refl _) J<|rA J J<|rN<|ATodo.ret<|?_
    obtain rfl := Option.some.inj h
    exact ImpX.here ⟨_,.cons (.tmp _ _ J) .nil,_,.cons .p0 .nil,⟨J,J⟩⟩

theorem Stream_Flip_c [GI : GTab] {b_0 : Bk} {p0x0 : Fleetmake_Stream} {p1x0 : Int} {r : Bool × Fleetmake_Stream} (h : Stream_Flip p0x0 p1x0 = some r) : ACall Tryz.prog 58 [.ptr b_0 0,I p1x0] [(b_0,.cells [lE0 p0x0.L,I p0x0.at_])] (T0 ([(b_0,.cells [lE0 r.2.L,I r.2.at_])]) (.bool r.1)) := by
  unfold Stream_Flip at h
  refine ACall.lessH ?_
  refine ACall.bodyN Tryz.func58 J Tryz.ntmps58 Tryz.results58 J J ?_
  refine tSR<|rA J J<|rN<|tSR<|rM J J<|rM J J<|bndE h fun v1 e1 h=>t_call0 J (Stream_Next_c e1) (CoL.refl _) (.cons .p0 .nil) J J<|ARun.qv (q_eql J J) J<|rA J J<|rN<|ATodo.ret<|?_
  obtain rfl := Option.some.inj h
  exact ImpX.here ⟨_,.cons (.tmp _ _ J) .nil,_,.cons .p0 .nil,⟨J,J⟩⟩

theorem Stream_Some_c [GI : GTab] {b_0 : Bk} {p0x0 : Fleetmake_Stream} {p1x0 : List Str} {r : Str × Fleetmake_Stream} (h : Stream_Some p0x0 p1x0 = some r) : ACall Tryz.prog 12 [.ptr b_0 0,lE1 p1x0] [(b_0,.cells [lE0 p0x0.L,I p0x0.at_])] (T0 ([(b_0,.cells [lE0 r.2.L,I r.2.at_])]) (.str r.1)) := by
  unfold Stream_Some at h
  refine ACall.lessH ?_
  refine ACall.bodyN Tryz.func12 J Tryz.ntmps12 Tryz.results12 J J ?_
  refine tSR<|rA J J<|rN<|tSR<|rM J J<|rM J J<|rM J J<|ARun.qv (t_len J) J<|bndE h fun v1 e1 h=>t_call0 J (Stream_Next_c e1) (CoL.refl _) (.cons .p0 .nil) J J<|bndE h fun v2 e2 h=>ARun.qv (t_index J J J e2 J J) J<|ARun.qv (q_load_rptr J J J) J<|rA J J<|rN<|ATodo.ret<|?_
  obtain rfl := Option.some.inj h
  exact ImpX.here ⟨_,.cons (.tmp _ _ J) .nil,_,.cons .p0 .nil,⟨J,J⟩⟩

theorem Stream_Range_c [GI : GTab] {b_0 : Bk} {p0x0 : Fleetmake_Stream} {p1x0 : Int} {p2x0 : Int} {r : Int × Fleetmake_Stream} (h : Stream_Range p0x0 p1x0 p2x0 = some r) : ACall Tryz.prog 11 [.ptr b_0 0,I p1x0,I p2x0] [(b_0,.cells [lE0 p0x0.L,I p0x0.at_])] (T0 ([(b_0,.cells [lE0 r.2.L,I r.2.at_])]) (I r.1)) := by
  unfold Stream_Range at h
  refine ACall.lessH ?_
  refine ACall.bodyN Tryz.func11 J Tryz.ntmps11 Tryz.results11 J J ?_
  refine tSR<|rA J J<|rN<|tS<|tSR<|rM J J<|rM J J<|ARun.qv (q_lss J J) J<|rN<|ATodo.cond_d J (fun hc=>?_) (fun hc=>?_)
  · refine have h := iteT hc h; tSR<|rM J J<|rA J J<|rN<|ATodo.ret<|?_
    obtain rfl := Option.some.inj h
    exact ImpX.here ⟨_,.cons (.tmp _ _ J) .nil,_,.cons .p0 .nil,⟨J,J⟩⟩
  · refine have h := iteF hc h; tK<|tSR<|rM J J<|rM J J<|rM J J<|rM J J<|ARun.qv (q_subw J J) J<|ARun.qv (q_addw J J) J<|bndE h fun v1 e1 h=>t_call0 J (Stream_Next_c e1) (CoL.refl _) (.cons .p0 .nil) J J<|ARun.qv (q_addw J J) J<|rA J J<|rN<|ATodo.ret<|?_
    obtain rfl := Option.some.inj h
    exact ImpX.here ⟨_,.cons (.tmp _ _ J) .nil,_,.cons .p0 .nil,⟨J,J⟩⟩

theorem Stream_Pick_c [GI : GTab] {b_0 : Bk} {p0x0 : Fleetmake_Stream} {p1x0 : List Int} {r : Int × Fleetmake_Stream} (h : Stream_Pick p0x0 p1x0 = some r) : ACall Tryz.prog 29 [.ptr b_0 0,lE0 p1x0] [(b_0,.cells [lE0 p0x0.L,I p0x0.at_])] (T0 ([(b_0,.cells [lE0 r.2.L,I r.2.at_])]) (I r.1)) := by
  unfold Stream_Pick at h
  refine ACall.lessH ?_
  refine ACall.bodyN Tryz.func29 J Tryz.ntmps29 Tryz.results29 J J ?_
  refine tSR<|rA J J<|rN<|tSR<|rM J J<|rM J J<|rM J J<|ARun.qv (t_len J) J<|bndE h fun v1 e1 h=>t_call0 J (Stream_Next_c e1) (CoL.refl _) (.cons .p0 .nil) J J<|bndE h fun v2 e2 h=>ARun.qv (t_index J J J e2 J J) J<|ARun.qv (q_load_rptr J J J) J<|rA J J<|rN<|ATodo.ret<|?_
  obtain rfl := Option.some.inj h
  exact ImpX.here ⟨_,.cons (.tmp _ _ J) .nil,_,.cons .p0 .nil,⟨J,J⟩⟩

theorem Stream_RightRule_c [GI : GTab] {b_0 : Bk} {p0x0 : Fleetmake_Stream} {p1x0 : Str} {r : Rule × Fleetmake_Stream} (h : Stream_RightRule p0x0 p1x0 = some r) : ACall Tryz.prog 66 [.ptr b_0 0,.str p1x0] [(b_0,.cells [lE0 p0x0.L,I p0x0.at_])] (T0 ([(b_0,.cells [lE0 r.2.L,I r.2.at_])]) (Rule.av r.1)) := by
  unfold Stream_RightRule at h
  refine ACall.lessH ?_
  refine ACall.bodyN Tryz.func66 J Tryz.ntmps66 Tryz.results66 J J ?_
  refine tSR<|n_alloc J J J J fun b1=>rN<|tSR<|rM J J<|rM J J<|n_buildSliceL (xs := ([([116] : Str),([116] : Str),([117] : Str)]).map AV.str) J J J J J J<|bndE h fun v2 e1 h=>t_call0 J (Stream_Some_c e1) (CoL.refl _) (.cons .p1 .nil) J J<|rM J J<|bndE h fun v3 e2 h=>t_call0 J (Stream_Range_c e2) (CoL.refl _) (.cons .p0 .nil) J J<|rM J J<|n_buildSliceL (xs := ([(5 : Int),(20 : Int),(50 : Int),(100 : Int)]).map I) J J J J J J<|bndE h fun v4 e3 h=>t_call0 J (Stream_Pick_c e3) (CoL.refl _) (.cons .p0 .nil) J J<|rM J J<|bndE h fun v5 e4 h=>t_call0 J (Stream_Flip_c e4) (CoL.refl _) (.cons .p0 .nil) J J<|rM J J<|n_buildSliceL (xs := ([(0 : Int),(2 : Int),(5 : Int),(8 : Int)]).map I) J J J J J J<|bndE h fun v6 e5 h=>t_call0 J (Stream_Pick_c e5) (CoL.refl _) (.cons .p0 .nil) J J<|rM J J<|n_buildSliceL (xs := ([(0 : Int),(0 : Int),(5 : Int),(15 : Int)]).map I) J J J J J J<|bndE h fun v7 e6 h=>t_call0 J (Stream_Pick_c e6) (CoL.refl _) (.cons .p0 .nil) J J<|rM J J<|n_buildSliceL (xs := ([(0 : Int),(0 : Int),(5 : Int),(15 : Int)]).map I) J J J J J J<|bndE h fun v8 e7 h=>t_call0 J (Stream_Pick_c e7) (CoL.refl _) (.cons .p0 .nil) J J<|rM J J<|n_buildSliceL (xs := ([(0 : Int),(0 : Int),(1 : Int),(2 : Int)]).map I) J J J J J J<|bndE h fun v9 e8 h=>t_call0 J (Stream_Pick_c e8) (CoL.refl _) (.cons .p0 .nil) J J<|ARun.qv (n_build J J J J J) J<|n_alloc J J J J fun b10=>n_store_ptr J J J J .p0 J J<|rN<|tS<|bndE h fun v11 e9 h=>ATodo.regionT (id := 2) (A := [0,1,0,0,12,31,63,127]) (H0 := [(b_0,.cells [lE0 v9.2.L,I v9.2.at_])]) (HH := fun β=>[(b_0,.cells [lE0 v11.2.L,I v11.2.at_]),(b10,.cells [.str p1x0,.str v2.1,I v3.1,I v4.1,.bool v5.1,I v6.1,I (0 : Int),I v7.1,I v8.1,I v9.1]),(b1,.cells [.str [],.str [],I (0 : Int),I (0 : Int),.bool false,I (0 : Int),I (0 : Int),I (0 : Int),I (0 : Int),I (0 : Int)])]) 5 mixed J (by kernel_rfl) (by kernel_rfl) [⟨none,some 4,[],fun _=>(b_0,.cells [lE0 v9.2.L,I v9.2.at_]),none,[]⟩,⟨some 4,none,[],fun _=>(b_0,.cells [lE0 v11.2.L,I v11.2.at_]),none,[]⟩] [] J (by kernel_rfl) J (.cons .p1 .nil) (fun _=>J)<|AT.am 4 J J<|AM.qv (n_field_ptr J J) J<|AM.qv (q_load_ptr J J .p0 J) J<|AM.qv (q_move J) J<|AM.buildSliceL (xs := ([(0 : Int),(0 : Int),(2 : Int),(4 : Int)]).map I) J J J J J J<|AM.nil<|AT.runS (av := I v11.1) (Ti := [(b_0,.cells [lE0 v9.2.L,I v9.2.at_])]) (Pi := [(b_0,.cells [lE0 v11.2.L,I v11.2.at_])]) (fun _=>J) (fun _=>J) (fun _=>J) J J J ?_ ?_
  · exact t_call0 J (Stream_Pick_c e9) (CoL.refl _) (.cons .p0 .nil) J J<|ARun.nil ⟨_,J,J⟩
  refine AT.nilN (fun _=>J) fun β=>ARun.qv (q_subw J J) J<|rF J J J<|n_store_ptr J J J J .p1 J J<|rN<|tS<|tSR<|rF J J J<|rL J J .p1 J J<|ARun.qv (q_not J) J<|rN<|ATodo.cut (fun σ'=>∃ (n12 : Int),Stream_RightRule_j1 p1x0 v2 v3 v4 v5 v6 v7 v8 v9 v11 n12 = some r ∧ σ' = ⟨48,[(4,.ptr b1 0),(5,.ptr b10 0)],[(b_0,.cells [lE0 v11.2.L,I v11.2.at_]),(b1,.cells [.str [],.str [],I (0 : Int),I (0 : Int),.bool false,I (0 : Int),I (0 : Int),I (0 : Int),I (0 : Int),I (0 : Int)]),(b10,.cells [.str p1x0,.str v2.1,I v3.1,I v4.1,.bool v5.1,I v6.1,I n12,I v7.1,I v8.1,I v9.1])]⟩) ?_ ?_
  · refine ATodo.cond J (fun hc=>?_) (fun hc=>?_)
    · exact have h := iteT hc h; tR<|rF J J J<|rL J J .p1 J J<|ARun.qv (q_mulw J J) J<|rF J J J<|rL J J .p1 J J<|ARun.qv (q_subw J J) J<|rF J J J<|n_store_ptr J J J J .p1 J J<|rN<|ATodo.stop<|ImpX.lq [0,1,0] ⟨w64 ((w64 ((2 : Int) * v6.1)) - (w64 (v6.1 - v11.1))),h,J⟩ J J
    · exact have h := iteFb hc h; tK<|ATodo.stop<|ImpX.lq [0,1,0] ⟨w64 (v6.1 - v11.1),h,J⟩ J J
  · rintro σ' ⟨n12, h, rfl⟩
    unfold Stream_RightRule_j1 at h
    refine tSR<|ARun.qv (q_load_ptr_all J J .p2 J) J<|n_store_ptr J J J J .p1 J J<|rN<|ATodo.ret<|?_
    obtain rfl := Option.some.inj h
    exact ImpX.here ⟨_,.cons (.all _ _ _ _ _ _ J .p1 TUnder.h TInfo.h J J) .nil,_,.cons .p0 .nil,⟨J,J⟩⟩

theorem Stream_Odd_c [GI : GTab] {b_0 : Bk} {p0x0 : Fleetmake_Stream} {p1x0 : Int} {p2x0 : Int} {r : Int × Fleetmake_Stream} (h : Stream_Odd p0x0 p1x0 p2x0 = some r) : ACall Tryz.prog 67 [.ptr b_0 0,I p1x0,I p2x0] [(b_0,.cells [lE0 p0x0.L,I p0x0.at_])] (T0 ([(b_0,.cells [lE0 r.2.L,I r.2.at_])]) (I r.1)) := by
  unfold Stream_Odd at h
  refine ACall.lessH ?_
  refine ACall.bodyN Tryz.func67 J Tryz.ntmps67 Tryz.results67 J J ?_
  refine tSR<|rA J J<|rN<|tS<|tSR<|rM J J<|bndE h fun v1 e1 h=>t_call0 J (Stream_Flip_c e1) (CoL.refl _) (.cons .p0 .nil) J J<|rN<|ATodo.cond J (fun hc=>?_) (fun hc=>?_)
  · refine have h := iteT hc h; tSR<|rM J J<|rM J J<|ARun.qv (q_subw J J) J<|rM J J<|ARun.qv (q_addw J J) J<|rM J J<|rM J J<|n_buildSliceL (xs := ([w64 (p1x0 - (1 : Int)),w64 (p2x0 + (1 : Int)),p1x0,p2x0,(-1099511627776 : Int),(1099511627776 : Int)]).map I) J J J J J J<|bndE h fun v2 e2 h=>t_call0 J (Stream_Pick_c e2) (CoL.refl _) (.cons .p0 .nil) J J<|rA J J<|rN<|ATodo.ret<|?_
    obtain rfl := Option.some.inj h
    exact ImpX.here ⟨_,.cons (.tmp _ _ J) .nil,_,.cons .p0 .nil,⟨J,J⟩⟩
  · refine have h := iteFb hc h; tK<|tSR<|rM J J<|rM J J<|rM J J<|bndE h fun v3 e3 h=>t_call0 J (Stream_Range_c e3) (CoL.refl _) (.cons .p0 .nil) J J<|rA J J<|rN<|ATodo.ret<|?_
    obtain rfl := Option.some.inj h
    exact ImpX.here ⟨_,.cons (.tmp _ _ J) .nil,_,.cons .p0 .nil,⟨J,J⟩⟩

theorem Stream_Rules_c [GI : GTab] {b_0 : Bk} {p0x0 : Fleetmake_Stream} {r : (List Rule) × Fleetmake_Stream} (h : Stream_Rules p0x0 = some r) : ACall Tryz.prog 8 [.ptr b_0 0] [(b_0,.cells [lE0 p0x0.L,I p0x0.at_])] (T1 (fun d_0=>[(b_0,.cells [lE0 r.2.L,I r.2.at_]),(d_0,aE2 r.1)]) (fun d_0=>.sl 10 d_0 0 r.1.length)) := by
  unfold Stream_Rules at h
  refine ACall.lessH ?_
  refine ACall.bodyN Tryz.func8 J Tryz.ntmps8 Tryz.results8 J J ?_
  refine tSR<|rA J J<|rN<|tSR<|rA J J<|rN<|tS<|tSR<|n_buildSliceL (xs := ([([114,97] : Str),([114,98] : Str),([114,99] : Str)]).map AV.str) J J J J J J<|ARun.qv (t_len J) J<|rM J J<|rN<|ATodo.block<|ATodo.loopI (fun x : (List Int) × Int × (List Rule) × Int=>Stream_Rules_b1 x.1 x.2.1 x.2.2.1 x.2.2.2) (fun x σ'=>∃ (b8 : Bk),σ' = ⟨67,[(0,.ptr b_0 0),(3,.sl 10 b8 0 x.2.2.1.length),(7,lE1 [([114,97] : Str),([114,98] : Str),([114,99] : Str)]),(8,I ([([114,97] : Str),([114,98] : Str),([114,99] : Str)].length : Int)),(9,I x.2.2.2)],[(b_0,.cells [lE0 x.1,I x.2.1]),(b8,aE2 x.2.2.1)]⟩) h ?_ ?_
  · exact ImpX.arr (s := 3) 10 J fun b11=>ImpX.lq [1,0] ⟨b11,J⟩ J J
  · intro x z1 σ' J1 hmk h hJ1 hA1
    obtain ⟨l6, n7, l9, n10⟩ := x
    obtain ⟨b8, rfl⟩ := hmk
    replace h : Stream_Rules_b1 l6 n7 l9 n10 = some z1 := h
    unfold Stream_Rules_b1 at h
    refine tSR<|ARun.qv (q_lss J J) J<|rN<|tS<|ATodo.cond_d J (fun hc=>?_) (fun hc=>?_)
    · refine have h := iteT hc h; tK<|tS<|ATodo.block<|tSR<|bndE h fun v12 e1 h=>ARun.qv (t_index J J J e1 J J) J<|ARun.qv (q_load_rptr J J J) J<|rA J J<|rN<|tSR<|rM J J<|bndE h fun v13 e2 h=>t_call0 J (Stream_Flip_c e2) (CoL.refl _) (.cons .p0 .nil) J J<|rN<|ATodo.cut (fun σ'=>∃ (b16 : Bk) (l14 : List Int) (n15 : Int) (l17 : List Rule),Stream_Rules_j1 n10 l14 n15 l17 = some z1 ∧ σ' = ⟨67,[(0,.ptr b_0 0),(3,.sl 10 b16 0 l17.length),(7,lE1 [([114,97] : Str),([114,98] : Str),([114,99] : Str)]),(8,I ([([114,97] : Str),([114,98] : Str),([114,99] : Str)].length : Int)),(9,I n10)],[(b_0,.cells [lE0 l14,I n15]),(b16,aE2 l17)]⟩) ?_ ?_
      · refine ATodo.cond J (fun hc=>?_) (fun hc=>?_)
        · exact have h := iteT hc h; tR<|rM J J<|rM J J<|rM J J<|bndE h fun v18 e3 h=>t_call0 J (Stream_RightRule_c e3) (CoL.refl _) (.cons .p0 .nil) J J<|n_buildSliceL (xs := ([v18.1] : List Rule).map Rule.av) J J J J J J<|bndE h fun l19 e4 h=>t_append (g := Rule.av) J J J J J J J J (.list _) e4 (fun _=>.p1) J fun b20=>rA J J<|rN<|ATodo.stop<|ImpX.lq [0,0] ⟨b20,v18.2.L,v18.2.at_,l19,h,J⟩ J J
        · exact have h := iteFb hc h; tK<|ATodo.stop<|ImpX.lq [0,0] ⟨b8,v13.2.L,v13.2.at_,l9,h,J⟩ J J
      · rintro σ' ⟨b16, l14, n15, l17, h, rfl⟩
        unfold Stream_Rules_j1 at h
        refine ATodo.blk<|tR<|ARun.qv (q_addw J J) J<|rM J J<|rN<|ATodo.stop<|?_
        obtain rfl := Option.some.inj h
        exact hJ1 _ _ J<|ImpX.lq [0,0] ⟨b16,J⟩ J J
    · refine have h := iteF hc h; ATodo.exit J<|have h := outL h hA1; ?_
      unfold Stream_Rules_k6 at h
      refine tS<|tSR<|rM J J<|bndE h fun v21 e5 h=>t_call0 J (Stream_Flip_c e5) (CoL.refl _) (.cons .p0 .nil) J J<|rN<|ATodo.cut (fun σ'=>∃ (b24 : Bk) (l22 : List Int) (n23 : Int) (l25 : List Rule),Stream_Rules_j2 l22 n23 l25 = some r ∧ σ' = ⟨67,[(3,.sl 10 b24 0 l25.length)],[(b_0,.cells [lE0 l22,I n23]),(b24,aE2 l25)]⟩) ?_ ?_
      · refine ATodo.cond J (fun hc=>?_) (fun hc=>?_)
        · refine have h := iteT hc h; tSR<|rM J J<|rM J J<|n_buildSliceL (xs := ([([] : Str),([114,97] : Str),([114,122] : Str)]).map AV.str) J J J J J J<|bndE h fun v26 e6 h=>t_call0 J (Stream_Some_c e6) (CoL.refl _) (.cons .p0 .nil) J J<|bndE h fun v27 e7 h=>t_call0 J (Stream_RightRule_c e7) (CoL.refl _) (.cons .p0 .nil) J J<|n_alloc J J J J fun b28=>n_store_ptr J J J J .p0 J J<|rN<|tS<|tSR<|rM J J<|bndE h fun v29 e8 h=>t_call0 J (Stream_Next_c e8) (CoL.refl _) (.cons .p1 .nil) J J<|rN<|ATodo.block<|tSR<|ARun.qv (q_eql J J) J<|rA J J<|rN<|ATodo.cut (fun σ'=>∃ (l30 : List Int) (n31 : Int) (q32 : Str) (n33 : Int) (n34 : Int) (n35 : Int) (n36 : Int) (n37 : Int) (n38 : Int) (n39 : Int),Stream_Rules_j3 l9 v27 l30 n31 q32 n33 n34 n35 n36 n37 n38 n39 = some r ∧ σ' = ⟨67,[(3,.sl 10 b8 0 l9.length),(6,.ptr b28 0)],[(b_0,.cells [lE0 l30,I n31]),(b8,aE2 l9),(b28,.cells [.str v27.1.Key,.str q32,I n33,I n34,.bool v27.1.Above,I n35,I n36,I n37,I n38,I n39])]⟩) ?_ ?_
          · refine ATodo.cond_d J (fun hc=>?_) (fun hc=>?_)
            · exact have h := iteT hc h; tR<|rM J J<|bndE h fun v40 e9 h=>t_call0 J (Stream_Odd_c e9) (CoL.refl _) (.cons .p0 .nil) J J<|rM J J<|bndE h fun v41 e10 h=>t_call0 J (Stream_Odd_c e10) (CoL.refl _) (.cons .p0 .nil) J J<|rF J J J<|n_store_ptr J J J J .p1 J J<|rF J J J<|n_store_ptr J J J J .p1 J J<|rN<|ATodo.stop<|ImpX.lq [0,1,0] ⟨v41.2.L,v41.2.at_,v27.1.Metric,v40.1,v27.1.Long,v27.1.On,v27.1.Off,v27.1.Hold,v27.1.Rest,v41.1,h,J⟩ J J
            · refine have h := iteF hc h; tSR<|ARun.qv (q_eql J J) J<|rA J J<|rN<|ATodo.cut (fun σ'=>∃ (l42 : List Int) (n43 : Int) (q44 : Str) (n45 : Int) (n46 : Int) (n47 : Int) (n48 : Int) (n49 : Int),Stream_Rules_j4 l9 v27 l42 n43 q44 n45 n46 n47 n48 n49 = some r ∧ σ' = ⟨67,[(3,.sl 10 b8 0 l9.length),(6,.ptr b28 0)],[(b_0,.cells [lE0 l42,I n43]),(b8,aE2 l9),(b28,.cells [.str v27.1.Key,.str q44,I v27.1.Agg,I n45,.bool v27.1.Above,I n46,I n47,I n48,I n49,I v27.1.Empty])]⟩) ?_ ?_
              · refine ATodo.cond_d J (fun hc=>?_) (fun hc=>?_)
                · exact have h := iteT hc h; tR<|rM J J<|bndE h fun v50 e11 h=>t_call0 J (Stream_Odd_c e11) (CoL.refl _) (.cons .p0 .nil) J J<|rM J J<|bndE h fun v51 e12 h=>t_call0 J (Stream_Odd_c e12) (CoL.refl _) (.cons .p0 .nil) J J<|rM J J<|bndE h fun v52 e13 h=>t_call0 J (Stream_Odd_c e13) (CoL.refl _) (.cons .p0 .nil) J J<|rF J J J<|n_store_ptr J J J J .p1 J J<|rF J J J<|n_store_ptr J J J J .p1 J J<|rF J J J<|n_store_ptr J J J J .p1 J J<|rN<|ATodo.stop<|ImpX.lq [0,1,0] ⟨v52.2.L,v52.2.at_,v27.1.Metric,v50.1,v27.1.On,v27.1.Off,v51.1,v52.1,h,J⟩ J J
                · refine have h := iteF hc h; tSR<|ARun.qv (q_eql J J) J<|rA J J<|rN<|ATodo.cut (fun σ'=>∃ (l53 : List Int) (n54 : Int) (q55 : Str) (n56 : Int) (n57 : Int),Stream_Rules_j5 l9 v27 l53 n54 q55 n56 n57 = some r ∧ σ' = ⟨67,[(3,.sl 10 b8 0 l9.length),(6,.ptr b28 0)],[(b_0,.cells [lE0 l53,I n54]),(b8,aE2 l9),(b28,.cells [.str v27.1.Key,.str q55,I v27.1.Agg,I v27.1.Long,.bool v27.1.Above,I n56,I n57,I v27.1.Hold,I v27.1.Rest,I v27.1.Empty])]⟩) ?_ ?_
                  · refine ATodo.cond_d J (fun hc=>?_) (fun hc=>?_)
                    · exact have h := iteT hc h; tR<|rM J J<|bndE h fun v58 e14 h=>t_call0 J (Stream_Odd_c e14) (CoL.refl _) (.cons .p0 .nil) J J<|rM J J<|bndE h fun v59 e15 h=>t_call0 J (Stream_Odd_c e15) (CoL.refl _) (.cons .p0 .nil) J J<|rF J J J<|n_store_ptr J J J J .p1 J J<|rF J J J<|n_store_ptr J J J J .p1 J J<|rN<|ATodo.stop<|ImpX.lq [0,1,0] ⟨v59.2.L,v59.2.at_,v27.1.Metric,v58.1,v59.1,h,J⟩ J J
                    · exact have h := iteF hc h; tR<|rM J J<|n_buildSliceL (xs := ([([] : Str),([65] : Str),([116] : Str)]).map AV.str) J J J J J J<|bndE h fun v60 e16 h=>t_call0 J (Stream_Some_c e16) (CoL.refl _) (.cons .p0 .nil) J J<|rF J J J<|n_store_ptr J J J J .p1 J J<|rN<|ATodo.stop<|ImpX.lq [0,1,0] ⟨v60.2.L,v60.2.at_,v60.1,v27.1.On,v27.1.Off,h,J⟩ J J
                  · rintro σ' ⟨l53, n54, q55, n56, n57, h, rfl⟩
                    unfold Stream_Rules_j5 at h
                    exact ATodo.stop<|ImpX.lq [0,0,0] ⟨l53,n54,q55,v27.1.Long,n56,n57,v27.1.Hold,v27.1.Rest,h,J⟩ J J
              · rintro σ' ⟨l42, n43, q44, n45, n46, n47, n48, n49, h, rfl⟩
                unfold Stream_Rules_j4 at h
                exact ATodo.stop<|ImpX.lq [0,0,0] ⟨l42,n43,q44,v27.1.Agg,n45,n46,n47,n48,n49,v27.1.Empty,h,J⟩ J J
          · rintro σ' ⟨l30, n31, q32, n33, n34, n35, n36, n37, n38, n39, h, rfl⟩
            unfold Stream_Rules_j3 at h
            exact ATodo.blk<|tR<|rM J J<|ARun.qv (q_load_ptr_all J J .p2 J) J<|n_buildSliceL (xs := ([(⟨v27.1.Key,q32,n33,n34,v27.1.Above,n35,n36,n37,n38,n39⟩ : Rule)]).map Rule.av) J J J J J J<|bndE h fun l61 e17 h=>t_append (g := Rule.av) J J J J J J J J (.list _) e17 (fun _=>.p1) J fun b62=>rA J J<|rN<|ATodo.stop<|ImpX.lq [0,0] ⟨b62,l30,n31,l61,h,J⟩ J J
        · exact have h := iteFb hc h; tK<|ATodo.stop<|ImpX.lq [0,0] ⟨b8,v21.2.L,v21.2.at_,l9,h,J⟩ J J
      · rintro σ' ⟨b24, l22, n23, l25, h, rfl⟩
        unfold Stream_Rules_j2 at h
        refine tSR<|rM J J<|rA J J<|rN<|ATodo.ret<|?_
        obtain rfl := Option.some.inj h
        exact ImpX.here ⟨_,.cons (.tmp _ _ J) .nil,_,.cons .p0 (.cons .p0 .nil),⟨b24,J,J⟩⟩

theorem L_oneRule_c [GI : GTab] {b_0 : Bk} {p0x0 : Fleetmake_Stream} {r : Rule × Fleetmake_Stream} (h : L_oneRule p0x0 = some r) : ACall Tryz.prog 9 [.ptr b_0 0] [(b_0,.cells [lE0 p0x0.L,I p0x0.at_])] (T0 ([(b_0,.cells [lE0 r.2.L,I r.2.at_])]) (Rule.av r.1)) := by
  unfold L_oneRule at h
  refine ACall.lessH ?_
  refine ACall.bodyN Tryz.func9 J Tryz.ntmps9 Tryz.results9 J J ?_
  refine tSR<|n_alloc J J J J fun b1=>rN<|tSR<|rM J J<|rM J J<|n_buildSliceL (xs := ([([114,97] : Str),([114,97] : Str),([114,98] : Str)]).map AV.str) J J J J J J<|bndE h fun v2 e1 h=>t_call0 J (Stream_Some_c e1) (CoL.refl _) (.cons .p1 .nil) J J<|bndE h fun v3 e2 h=>t_call0 J (Stream_RightRule_c e2) (CoL.refl _) (.cons .p0 .nil) J J<|n_alloc J J J J fun b4=>n_store_ptr J J J J .p0 J J<|rN<|tS<|tSR<|rM J J<|bndE h fun v5 e3 h=>t_call0 J (Stream_Flip_c e3) (CoL.refl _) (.cons .p1 .nil) J J<|rN<|ATodo.cut (fun σ'=>∃ (l6 : List Int) (n7 : Int) (q8 : Str) (n9 : Int) (n10 : Int),L_oneRule_j1 v3 l6 n7 q8 n9 n10 = some r ∧ σ' = ⟨22,[(2,.ptr b1 0),(3,.ptr b4 0)],[(b_0,.cells [lE0 l6,I n7]),(b1,.cells [.str [],.str [],I (0 : Int),I (0 : Int),.bool false,I (0 : Int),I (0 : Int),I (0 : Int),I (0 : Int),I (0 : Int)]),(b4,.cells [.str q8,.str v3.1.Metric,I n9,I n10,.bool v3.1.Above,I v3.1.On,I v3.1.Off,I v3.1.Hold,I v3.1.Rest,I v3.1.Empty])]⟩) ?_ ?_
  · refine ATodo.cond J (fun hc=>?_) (fun hc=>?_)
    · exact have h := iteT hc h; tR<|rM J J<|n_buildSliceL (xs := ([([] : Str),([114,97] : Str)]).map AV.str) J J J J J J<|bndE h fun v11 e4 h=>t_call0 J (Stream_Some_c e4) (CoL.refl _) (.cons .p0 .nil) J J<|rM J J<|bndE h fun v12 e5 h=>t_call0 J (Stream_Odd_c e5) (CoL.refl _) (.cons .p0 .nil) J J<|rM J J<|bndE h fun v13 e6 h=>t_call0 J (Stream_Odd_c e6) (CoL.refl _) (.cons .p0 .nil) J J<|rF J J J<|n_store_ptr J J J J .p1 J J<|rF J J J<|n_store_ptr J J J J .p1 J J<|rF J J J<|n_store_ptr J J J J .p1 J J<|rN<|ATodo.stop<|ImpX.lq [0,1,0] ⟨v13.2.L,v13.2.at_,v11.1,v12.1,v13.1,h,J⟩ J J
    · exact have h := iteFb hc h; tK<|ATodo.stop<|ImpX.lq [0,1,0] ⟨v5.2.L,v5.2.at_,v3.1.Key,v3.1.Agg,v3.1.Long,h,J⟩ J J
  · rintro σ' ⟨l6, n7, q8, n9, n10, h, rfl⟩
    unfold L_oneRule_j1 at h
    refine tSR<|ARun.qv (q_load_ptr_all J J .p2 J) J<|n_store_ptr J J J J .p1 J J<|rN<|ATodo.ret<|?_
    obtain rfl := Option.some.inj h
    exact ImpX.here ⟨_,.cons (.all _ _ _ _ _ _ J .p1 TUnder.h TInfo.h J J) .nil,_,.cons .p0 .nil,⟨J,J⟩⟩

theorem Stream_Readings_c [GI : GTab] {b_0 : Bk} {p0x0 : Fleetmake_Stream} {p1x0 : Int} {r : (List Sample) × Fleetmake_Stream} (h : Stream_Readings p0x0 p1x0 = some r) : ACall Tryz.prog 10 [.ptr b_0 0,I p1x0] [(b_0,.cells [lE0 p0x0.L,I p0x0.at_])] (T1 (fun d_0=>[(b_0,.cells [lE0 r.2.L,I r.2.at_]),(d_0,aE3 r.1)]) (fun d_0=>.sl 4 d_0 0 r.1.length)) := by
  unfold Stream_Readings at h
  refine ACall.lessH ?_
  refine ACall.bodyN Tryz.func10 J Tryz.ntmps10 Tryz.results10 J J ?_
  refine tSR<|rA J J<|rN<|tSR<|rA J J<|rN<|tSR<|rM J J<|bndE h fun v1 e1 h=>t_call0 J (Stream_Next_c e1) (CoL.refl _) (.cons .p0 .nil) J J<|rA J J<|rN<|tS<|tSR<|rM J J<|rM J J<|rN<|ATodo.block<|ATodo.loopI (fun x : (List Int) × Int × (List Sample) × Int × Int=>Stream_Readings_b1 p1x0 x.1 x.2.1 x.2.2.1 x.2.2.2.1 x.2.2.2.2) (fun x σ'=>∃ (b10 : Bk),σ' = ⟨88,[(0,.ptr b_0 0),(5,.sl 4 b10 0 x.2.2.1.length),(6,I x.2.2.2.1),(14,I p1x0),(15,I x.2.2.2.2)],[(b_0,.cells [lE0 x.1,I x.2.1]),(b10,aE3 x.2.2.1)]⟩) h ?_ ?_
  · exact ImpX.arr (s := 5) 4 J fun b14=>ImpX.lq [1,0] ⟨b14,J⟩ J J
  · intro x z1 σ' J1 hmk h hJ1 hA1
    obtain ⟨l8, n9, l11, n12, n13⟩ := x
    obtain ⟨b10, rfl⟩ := hmk
    replace h : Stream_Readings_b1 p1x0 l8 n9 l11 n12 n13 = some z1 := h
    unfold Stream_Readings_b1 at h
    refine tSR<|ARun.qv (q_lss J J) J<|rN<|tS<|ATodo.cond_d J (fun hc=>?_) (fun hc=>?_)
    · refine have h := iteT hc h; tK<|tS<|ATodo.block<|tS<|tSR<|n_buildSliceL (xs := ([([100,97] : Str),([100,98] : Str)]).map AV.str) J J J J J J<|ARun.qv (t_len J) J<|rM J J<|rN<|ATodo.block<|ATodo.loopI (fun x : (List Int) × Int × (List Sample) × Int=>Stream_Readings_b2 n12 n13 x.1 x.2.1 x.2.2.1 x.2.2.2) (fun x σ'=>∃ (b22 : Bk),σ' = ⟨88,[(0,.ptr b_0 0),(5,.sl 4 b22 0 x.2.2.1.length),(6,I n12),(14,I p1x0),(15,I n13),(17,lE1 [([100,97] : Str),([100,98] : Str)]),(18,I ([([100,97] : Str),([100,98] : Str)].length : Int)),(19,I x.2.2.2)],[(b_0,.cells [lE0 x.1,I x.2.1]),(b22,aE3 x.2.2.1)]⟩) h ?_ ?_
      · exact ImpX.lq [0,0] ⟨b10,J⟩ J J
      · intro x z2 σ' J2 hmk h hJ2 hA2
        obtain ⟨l20, n21, l23, n24⟩ := x
        obtain ⟨b22, rfl⟩ := hmk
        replace h : Stream_Readings_b2 n12 n13 l20 n21 l23 n24 = some z2 := h
        unfold Stream_Readings_b2 at h
        refine tSR<|ARun.qv (q_lss J J) J<|rN<|tS<|ATodo.cond_d J (fun hc=>?_) (fun hc=>?_)
        · refine have h := iteT hc h; tK<|tS<|ATodo.block<|tSR<|bndE h fun v25 e2 h=>ARun.qv (t_index J J J e2 J J) J<|ARun.qv (q_load_rptr J J J) J<|rA J J<|rN<|tSR<|n_buildSliceL (xs := ([([116] : Str),([117] : Str)]).map AV.str) J J J J J J<|ARun.qv (t_len J) J<|rM J J<|rN<|ATodo.block<|ATodo.loopI (fun x : (List Int) × Int × (List Sample) × Int=>Stream_Readings_b3 n12 n24 v25 x.1 x.2.1 x.2.2.1 x.2.2.2) (fun x σ'=>∃ (b33 : Bk),σ' = ⟨88,[(0,.ptr b_0 0),(5,.sl 4 b33 0 x.2.2.1.length),(6,I n12),(8,.str v25),(14,I p1x0),(15,I n13),(17,lE1 [([100,97] : Str),([100,98] : Str)]),(18,I ([([100,97] : Str),([100,98] : Str)].length : Int)),(19,I n24),(23,lE1 [([116] : Str),([117] : Str)]),(24,I ([([116] : Str),([117] : Str)].length : Int)),(25,I x.2.2.2)],[(b_0,.cells [lE0 x.1,I x.2.1]),(b33,aE3 x.2.2.1)]⟩) h ?_ ?_
          · exact ImpX.lq [0,0] ⟨b22,J⟩ J J
          · intro x z3 σ' J3 hmk h hJ3 hA3
            obtain ⟨l31, n32, l34, n35⟩ := x
            obtain ⟨b33, rfl⟩ := hmk
            replace h : Stream_Readings_b3 n12 n24 v25 l31 n32 l34 n35 = some z3 := h
            unfold Stream_Readings_b3 at h
            refine tSR<|ARun.qv (q_lss J J) J<|rN<|tS<|ATodo.cond_d J (fun hc=>?_) (fun hc=>?_)
            · refine have h := iteT hc h; tK<|tS<|ATodo.block<|tSR<|bndE h fun v36 e3 h=>ARun.qv (t_index J J J e3 J J) J<|ARun.qv (q_load_rptr J J J) J<|rA J J<|rN<|tSR<|rM J J<|bndE h fun v37 e4 h=>t_call0 J (Stream_Flip_c e4) (CoL.refl _) (.cons .p0 .nil) J J<|rN<|ATodo.cut (fun σ'=>∃ (b40 : Bk) (l38 : List Int) (n39 : Int) (l41 : List Sample),Stream_Readings_j1 n35 l38 n39 l41 = some z3 ∧ σ' = ⟨88,[(0,.ptr b_0 0),(5,.sl 4 b40 0 l41.length),(6,I n12),(8,.str v25),(14,I p1x0),(15,I n13),(17,lE1 [([100,97] : Str),([100,98] : Str)]),(18,I ([([100,97] : Str),([100,98] : Str)].length : Int)),(19,I n24),(23,lE1 [([116] : Str),([117] : Str)]),(24,I ([([116] : Str),([117] : Str)].length : Int)),(25,I n35)],[(b_0,.cells [lE0 l38,I n39]),(b40,aE3 l41)]⟩) ?_ ?_
              · refine ATodo.cond J (fun hc=>?_) (fun hc=>?_)
                · exact have h := iteT hc h; tR<|rM J J<|rM J J<|rM J J<|rM J J<|rM J J<|n_buildSliceL (xs := ([(0 : Int),(1 : Int),(2 : Int),(4 : Int),(5 : Int),(6 : Int),(8 : Int),(9 : Int),(-3 : Int)]).map I) J J J J J J<|bndE h fun v42 e5 h=>t_call0 J (Stream_Pick_c e5) (CoL.refl _) (.cons .p0 .nil) J J<|ARun.qv (n_build J J J J J) J<|n_buildSliceL (xs := ([(⟨v25,v36,n12,v42.1⟩ : Sample)]).map Sample.av) J J J J J J<|bndE h fun l43 e6 h=>t_append (g := Sample.av) J J J J J J J J (.list _) e6 (fun _=>.p1) J fun b44=>rA J J<|rN<|ATodo.stop<|ImpX.lq [0,0] ⟨b44,v42.2.L,v42.2.at_,l43,h,J⟩ J J
                · exact have h := iteFb hc h; tK<|ATodo.stop<|ImpX.lq [0,0] ⟨b33,v37.2.L,v37.2.at_,l34,h,J⟩ J J
              · rintro σ' ⟨b40, l38, n39, l41, h, rfl⟩
                unfold Stream_Readings_j1 at h
                refine ATodo.blk<|tR<|ARun.qv (q_addw J J) J<|rM J J<|rN<|ATodo.stop<|?_
                obtain rfl := Option.some.inj h
                exact hJ3 _ _ J<|ImpX.lq [0,0] ⟨b40,J⟩ J J
            · refine have h := iteF hc h; ATodo.exit J<|have h := outL h hA3; ATodo.blk<|tR<|ARun.qv (q_addw J J) J<|rM J J<|rN<|ATodo.stop<|?_
              obtain rfl := Option.some.inj h
              exact hJ2 _ _ J<|ImpX.lq [0,0] ⟨b33,J⟩ J J
        · refine have h := iteF hc h; ATodo.exit J<|have h := outL h hA2; ?_
          unfold Stream_Readings_k2 at h
          refine tR<|rM J J<|rM J J<|n_buildSliceL (xs := ([(1 : Int),(3 : Int),(5 : Int),(10 : Int),(40 : Int)]).map I) J J J J J J<|bndE h fun v45 e7 h=>t_call0 J (Stream_Pick_c e7) (CoL.refl _) (.cons .p0 .nil) J J<|ARun.qv (q_addw J J) J<|rA J J<|rN<|ATodo.blk<|tR<|ARun.qv (q_addw J J) J<|rM J J<|rN<|ATodo.stop<|?_
          obtain rfl := Option.some.inj h
          exact hJ1 _ _ J<|ImpX.lq [0,0] ⟨b22,J⟩ J J
    · refine have h := iteF hc h; ATodo.exit J<|have h := outL h hA1; ?_
      unfold Stream_Readings_k5 at h
      refine tS<|tS<|ATodo.cut (fun σ'=>∃ (l46 : List Int) (n47 : Int) (c48 : Bool),Stream_Readings_j3 l11 l46 n47 c48 = some r ∧ σ' = ⟨88,[(0,.ptr b_0 0),(5,.sl 4 b10 0 l11.length),(55,.bool c48)],[(b_0,.cells [lE0 l46,I n47]),(b10,aE3 l11)]⟩) ?_ ?_
      · refine tR<|rM J J<|ARun.qv (t_len_sl J) J<|ARun.qv (q_gtr J J) J<|rM J J<|ARun.guard_dt J J J (fun hc=>?_) (fun hc=>?_)
        · exact have h := iteT hc h; rM J J<|rY J J J<|bndE h fun v49 e8 h=>t_call0 J (Stream_Flip_c e8) (CoL.refl _) (.cons .p0 .nil) J J<|rT J J J<|rN<|ATodo.stop<|ImpX.lq [0,0] ⟨v49.2.L,v49.2.at_,v49.1,h,J⟩ J J
        · exact have h := iteF hc h; rG J J J J<|rE J J J<|rN<|ATodo.stop<|ImpX.lq [0,0] ⟨l8,n9,false,h,J⟩ J J
      · rintro σ' ⟨l46, n47, c48, h, rfl⟩
        unfold Stream_Readings_j3 at h
        refine ATodo.cut (fun σ'=>∃ (l50 : List Int) (n51 : Int) (l52 : List Sample),Stream_Readings_j4 l50 n51 l52 = some r ∧ σ' = ⟨88,[(5,.sl 4 b10 0 l52.length)],[(b_0,.cells [lE0 l50,I n51]),(b10,aE3 l52)]⟩) ?_ ?_
        · refine ATodo.cond J (fun hc=>?_) (fun hc=>?_)
          · refine have h := iteT hc h; tSR<|rM J J<|rM J J<|rM J J<|ARun.qv (t_len_sl J) J<|bndE h fun v53 e9 h=>t_call0 J (Stream_Next_c e9) (CoL.refl _) (.cons .p0 .nil) J J<|bndE h fun v54 e10 h=>ARun.qv (t_index_sl J J J e10) J<|rA J J<|rN<|bndE h fun v55 e11 h=>bndE h fun v56 e12 h=>bndE h fun v57 e13 h=>ATodo.regionT (id := 19) (A := [0,0,0,0,0,16,48,112,240,504,0,0,2048,6144,14336,30720,65528,0,262136,524281,1048569,2097145,4194299,8388603,16777211,33554431,67108863,134217727]) (H0 := [(b_0,.cells [lE0 v53.2.L,I v53.2.at_]),(b10,aE3 l11)]) (HH := fun β=>[(b_0,.cells [lE0 v57.2.L,I v57.2.at_]),(b10,aE3 ((l11.set v53.1.toNat (⟨v54.Device,v54.Metric,v55.1,v54.Value⟩ : Sample)).set v53.1.toNat (⟨v56.1,v54.Metric,v55.1,v54.Value⟩ : Sample)))]) 25 mixed J (by kernel_rfl) (by kernel_rfl) [⟨none,some 9,[],fun _=>(b_0,.cells [lE0 v53.2.L,I v53.2.at_]),none,[]⟩,⟨none,some 21,[7,14],fun _=>(b10,aE3 l11),none,[]⟩,⟨some 9,some 16,[],fun _=>(b_0,.cells [lE0 v55.2.L,I v55.2.at_]),none,[]⟩,⟨some 16,some 18,[],fun _=>(b_0,.cells [lE0 v56.2.L,I v56.2.at_]),none,[]⟩,⟨some 18,none,[],fun _=>(b_0,.cells [lE0 v57.2.L,I v57.2.at_]),none,[]⟩,⟨some 21,some 24,[],fun _=>(b10,aE3 (l11.set v53.1.toNat (⟨v54.Device,v54.Metric,v55.1,v54.Value⟩ : Sample))),none,[]⟩,⟨some 24,none,[],fun _=>(b10,aE3 ((l11.set v53.1.toNat (⟨v54.Device,v54.Metric,v55.1,v54.Value⟩ : Sample)).set v53.1.toNat (⟨v56.1,v54.Metric,v55.1,v54.Value⟩ : Sample))),none,[]⟩] [] J (by kernel_rfl) J (.cons .p0 (.cons .p0 .nil)) (fun _=>J)<|AT.am 7 J J<|AM.qv (q_move J) J<|AM.qv (q_move J) J<|AM.qv (q_move J) J<|AM.qv (q_move J) J<|AM.qv (q_move J) J<|AM.qv (q_nilCheck_aptr J) J<|AM.qv (t_field_aptr J J) J<|AM.nil<|AT.rd (Rs := [(b10,aE3 l11)]) (fun _=>J) J (fun _=>J) (fun _=>J) (t_load_aptr (g := Sample.av) J J (.inl .p0) e10 J) J<|AT.am 1 J J<|AM.buildSliceL (xs := ([v54.At,(-1 : Int),(0 : Int),(345686400000 : Int)]).map I) J J J J J J<|AM.nil<|AT.runS (av := I v55.1) (Ti := [(b_0,.cells [lE0 v53.2.L,I v53.2.at_])]) (Pi := [(b_0,.cells [lE0 v55.2.L,I v55.2.at_])]) (fun _=>J) (fun _=>J) (fun _=>J) J J J ?_ ?_
            · exact t_call0 J (Stream_Pick_c e11) (CoL.refl _) (.cons .p0 .nil) J J<|ARun.nil ⟨_,J,J⟩
            refine AT.am 4 J J<|AM.qv (q_move J) J<|AM.qv (q_move J) J<|AM.qv (q_nilCheck_aptr J) J<|AM.qv (t_field_aptr J J) J<|AM.nil<|AT.rd (Rs := [(b10,aE3 l11)]) (fun _=>J) J (fun _=>J) (fun _=>J) (t_load_aptr (g := Sample.av) J J (.inl .p0) e10 J) J<|AT.am 1 J J<|AM.buildSliceL (xs := ([v54.Device,([] : Str),([65] : Str)]).map AV.str) J J J J J J<|AM.nil<|AT.runS (av := .str v56.1) (Ti := [(b_0,.cells [lE0 v55.2.L,I v55.2.at_])]) (Pi := [(b_0,.cells [lE0 v56.2.L,I v56.2.at_])]) (fun _=>J) (fun _=>J) (fun _=>J) J J J ?_ ?_
            · exact t_call0 J (Stream_Some_c e12) (CoL.refl _) (.cons .p0 .nil) J J<|ARun.nil ⟨_,J,J⟩
            refine AT.am 1 J J<|AM.qv (q_move J) J<|AM.nil<|AT.runS (av := I v57.1) (Ti := [(b_0,.cells [lE0 v56.2.L,I v56.2.at_])]) (Pi := [(b_0,.cells [lE0 v57.2.L,I v57.2.at_])]) (fun _=>J) (fun _=>J) (fun _=>J) J J J ?_ ?_
            · exact t_call0 J (Stream_Odd_c e13) (CoL.refl _) (.cons .p0 .nil) J J<|ARun.nil ⟨_,J,J⟩
            refine AT.am 2 J J<|AM.qv (q_nilCheck_aptr J) J<|AM.qv (t_field_aptr J J) J<|AM.nil<|AT.run0 (Ti := [(b10,aE3 l11)]) (Pi := [(b10,aE3 (l11.set v53.1.toNat (⟨v54.Device,v54.Metric,v55.1,v54.Value⟩ : Sample)))]) (fun _=>J) (fun _=>J) (fun _=>J) J J ?_ ?_
            · exact t_store_aptr1 (g := Sample.av) (el' := (⟨v54.Device,v54.Metric,v55.1,v54.Value⟩ : Sample)) J J J J e10 J .p0 J<|ARun.nil ⟨_,J⟩
            refine AT.am 2 J J<|AM.qv (q_nilCheck_aptr J) J<|AM.qv (t_field_aptr J J) J<|AM.nil<|AT.run0 (Ti := [(b10,aE3 (l11.set v53.1.toNat (⟨v54.Device,v54.Metric,v55.1,v54.Value⟩ : Sample)))]) (Pi := [(b10,aE3 ((l11.set v53.1.toNat (⟨v54.Device,v54.Metric,v55.1,v54.Value⟩ : Sample)).set v53.1.toNat (⟨v56.1,v54.Metric,v55.1,v54.Value⟩ : Sample)))]) (fun _=>J) (fun _=>J) (fun _=>J) J J ?_ ?_
            · exact t_store_aptr1 (g := Sample.av) (el' := (⟨v56.1,v54.Metric,v55.1,v54.Value⟩ : Sample)) J J J J (idx_set_self (v := (⟨v54.Device,v54.Metric,v55.1,v54.Value⟩ : Sample)) e10) J .p0 J<|ARun.nil ⟨_,J⟩
            exact AT.nilN (fun _=>J) fun β=>ARun.ghost<|ImpX.eqs (s := 5) (av' := .sl 4 b10 0 ((l11.set v53.1.toNat (⟨v54.Device,v54.Metric,v55.1,v54.Value⟩ : Sample)).set v53.1.toNat (⟨v56.1,v54.Metric,v55.1,v54.Value⟩ : Sample)).length) J (by simp)<|ImpX.here<|ARun.ghost<|ImpX.eqs (s := 56) (av' := .sl 4 b10 0 ((l11.set v53.1.toNat (⟨v54.Device,v54.Metric,v55.1,v54.Value⟩ : Sample)).set v53.1.toNat (⟨v56.1,v54.Metric,v55.1,v54.Value⟩ : Sample)).length) J (by simp)<|ImpX.here<|ARun.ghost<|ImpX.eqs (s := 58) (av' := .sl 4 b10 0 ((l11.set v53.1.toNat (⟨v54.Device,v54.Metric,v55.1,v54.Value⟩ : Sample)).set v53.1.toNat (⟨v56.1,v54.Metric,v55.1,v54.Value⟩ : Sample)).length) J (by simp)<|ImpX.here<|ARun.qv (q_nilCheck_aptr J) J<|ARun.qv (t_field_aptr J J) J<|t_store_aptr1 (g := Sample.av) (el' := (⟨v56.1,v54.Metric,v55.1,v57.1⟩ : Sample)) J J J J (idx_set_self (v := (⟨v56.1,v54.Metric,v55.1,v54.Value⟩ : Sample)) (idx_set_self (v := (⟨v54.Device,v54.Metric,v55.1,v54.Value⟩ : Sample)) e10)) J .p1 J<|ARun.ghost<|ImpX.eqs (s := 5) (av' := .sl 4 b10 0 (((l11.set v53.1.toNat (⟨v54.Device,v54.Metric,v55.1,v54.Value⟩ : Sample)).set v53.1.toNat (⟨v56.1,v54.Metric,v55.1,v54.Value⟩ : Sample)).set v53.1.toNat (⟨v56.1,v54.Metric,v55.1,v57.1⟩ : Sample)).length) J (by rw [List.length_set])<|ImpX.here<|ARun.ghost<|ImpX.eqs (s := 56) (av' := .sl 4 b10 0 (((l11.set v53.1.toNat (⟨v54.Device,v54.Metric,v55.1,v54.Value⟩ : Sample)).set v53.1.toNat (⟨v56.1,v54.Metric,v55.1,v54.Value⟩ : Sample)).set v53.1.toNat (⟨v56.1,v54.Metric,v55.1,v57.1⟩ : Sample)).length) J (by rw [List.length_set])<|ImpX.here<|ARun.ghost<|ImpX.eqs (s := 58) (av' := .sl 4 b10 0 (((l11.set v53.1.toNat (⟨v54.Device,v54.Metric,v55.1,v54.Value⟩ : Sample)).set v53.1.toNat (⟨v56.1,v54.Metric,v55.1,v54.Value⟩ : Sample)).set v53.1.toNat (⟨v56.1,v54.Metric,v55.1,v57.1⟩ : Sample)).length) J (by rw [List.length_set])<|ImpX.here<|rN<|ATodo.stop<|ImpX.lq [0,0] ⟨v57.2.L,v57.2.at_,((l11.set v53.1.toNat (⟨v54.Device,v54.Metric,v55.1,v54.Value⟩ : Sample)).set v53.1.toNat (⟨v56.1,v54.Metric,v55.1,v54.Value⟩ : Sample)).set v53.1.toNat (⟨v56.1,v54.Metric,v55.1,v57.1⟩ : Sample),h,J⟩ J J
          · exact have h := iteFb hc h; tK<|ATodo.stop<|ImpX.lq [0,0] ⟨l46,n47,l11,h,J⟩ J J
        · rintro σ' ⟨l50, n51, l52, h, rfl⟩
          unfold Stream_Readings_j4 at h
          refine tSR<|rM J J<|rA J J<|rN<|ATodo.ret<|?_
          obtain rfl := Option.some.inj h
          exact ImpX.here ⟨_,.cons (.tmp _ _ J) .nil,_,.cons .p0 (.cons .p0 .nil),⟨b10,J,J⟩⟩

theorem Stream_Time_c [GI : GTab] {b_0 : Bk} {p0x0 : Fleetmake_Stream} {r : Int × Fleetmake_Stream} (h : Stream_Time p0x0 = some r) : ACall Tryz.prog 13 [.ptr b_0 0] [(b_0,.cells [lE0 p0x0.L,I p0x0.at_])] (T0 ([(b_0,.cells [lE0 r.2.L,I r.2.at_])]) (I r.1)) := by
  unfold Stream_Time at h
  refine ACall.lessH ?_
  refine ACall.bodyN Tryz.func13 J Tryz.ntmps13 Tryz.results13 J J ?_
  refine tSR<|rA J J<|rN<|tSR<|rM J J<|rM J J<|bndE h fun v1 e1 h=>t_call0 J (Stream_Next_c e1) (CoL.refl _) (.cons .p0 .nil) J J<|rM J J<|bndE h fun v2 e2 h=>t_call0 J (Stream_Next_c e2) (CoL.refl _) (.cons .p0 .nil) J J<|rM J J<|n_buildSliceL (xs := ([(345686399999 : Int),(-1 : Int),(345686400000 : Int)]).map I) J J J J J J<|bndE h fun v3 e3 h=>t_call0 J (Stream_Pick_c e3) (CoL.refl _) (.cons .p0 .nil) J J<|n_buildSliceL (xs := ([(0 : Int),(5 : Int),(20 : Int),(40 : Int),(60 : Int),(80 : Int),(120 : Int),v1.1,v2.1,v3.1]).map I) J J J J J J<|bndE h fun v4 e4 h=>t_call0 J (Stream_Pick_c e4) (CoL.refl _) (.cons .p0 .nil) J J<|rA J J<|rN<|ATodo.ret<|?_
  obtain rfl := Option.some.inj h
  exact ImpX.here ⟨_,.cons (.tmp _ _ J) .nil,_,.cons .p0 .nil,⟨J,J⟩⟩

theorem slices_Clone_Sample_Sample_c [GI : GTab] {p0x0 : List Sample} {r : (List Sample)} (h : slices_Clone_Sample_Sample p0x0 = some r) : ACall Tryz.prog 34 [.list 4 (p0x0.map Sample.av)] [] (T1 (fun d_0=>[(d_0,.arr 4 (r.map Sample.av))]) (fun d_0=>.sl 4 d_0 0 r.length)) := by
  unfold slices_Clone_Sample_Sample at h
  refine ACall.lessH ?_
  refine ACall.bodyN Tryz.func34 J Tryz.ntmps34 Tryz.results34 J J ?_
  refine ATodo.seq ?_
  refine ATodo.region ?_
  refine ARun.qv (q_assign J) J ?_
  refine ARun.nil ?_
  refine ATodo.seq ?_
  refine ATodo.seq ?_
  refine ATodo.region ?_
  refine ARun.qv (q_move J) J ?_
  refine r_eqnil J J J J (fun c hc=>?_)
  refine ARun.nil ?_
  refine ATodo.cond J (fun hT=>?_) (fun hF=>?_)
  · obtain rfl := app_nil_some h (List.map_eq_nil_iff.1 (hc hT))
    refine ATodo.seq ?_
    refine ATodo.region ?_
    refine ARun.qv (q_assign J) J ?_
    refine ARun.nil ?_
    refine ATodo.ret ?_
    refine ImpX.arr (s := 2) 4 J (fun b1=>?_)
    exact ImpX.here ⟨_,.cons (.tmp _ _ J) .nil,_,.cons .here .nil,⟨b1,J,J⟩⟩
  · refine ATodo.skip ?_
    refine ATodo.seq ?_
    refine ATodo.region ?_
    refine n_buildSlice (xs := ([] : List Sample).map Sample.av) J J J J J J (fun b2=>?_)
    refine ARun.qv (q_move J) J ?_
    refine t_append (g := Sample.av) (Xs := []) J J J J J J J J (.list _) h (fun _=>.here) J (fun b3=>?_)
    refine ARun.qv (q_assign J) J ?_
    refine ARun.nil ?_
    refine ATodo.ret ?_
    exact ImpX.here ⟨_,.cons (.tmp _ _ J) .nil,_,.cons .here .nil,⟨b3,J,J⟩⟩

theorem base_Out_c [GI : GTab] {p0x0 : Int} {p1x0 : Int} {p2x0 : Int} {r : Bool} (h : base_Out p0x0 p1x0 p2x0 = r) : Pu Tryz.prog 90 [I p0x0,I p1x0,I p2x0] (.bool r) := by
  unfold base_Out at h
  refine ACall.bodyN Tryz.func90 J Tryz.ntmps90 Tryz.results90 J J ?_
  refine tSR<|rA J J<|rN<|tS<|ATodo.cut (fun σ'=>∃ (c1 : Bool),base_Out_j1 c1 = r ∧ σ' = ⟨15,[(6,.bool c1)],[]⟩) ?_ ?_
  · refine tR<|rM J J<|rM J J<|ARun.qv (q_lss J J) J<|rM J J<|ARun.guard_df J J J (fun hc=>?_) (fun hc=>?_)
    · rw [orFd hc] at h
      exact rM J J<|rY J J J<|rM J J<|rY J J J<|ARun.qv (q_gtr J J) J<|rE J J J<|rA J J<|rN<|ATodo.stop<|ImpX.lq [] ⟨decide (p2x0 < p0x0),h,J⟩ J J
    · rw [orTd hc] at h
      exact rG J J J J<|rG J J J J<|rT J J J<|rA J J<|rN<|ATodo.stop<|ImpX.lq [] ⟨true,h,J⟩ J J
  · rintro σ' ⟨c1, h, rfl⟩
    unfold base_Out_j1 at h
    refine ATodo.ret<|?_
    obtain rfl := h
    exact ImpX.here ⟨_,.cons (.tmp _ _ J) .nil,J⟩

theorem base_Moment_c [GI : GTab] {p0x0 : Int} {r : Bool} (h : base_Moment p0x0 = r) : Pu Tryz.prog 124 [I p0x0] (.bool r) := by
  unfold base_Moment at h
  refine ACall.bodyN Tryz.func124 J Tryz.ntmps124 Tryz.results124 J J ?_
  refine tSR<|rA J J<|rN<|tSR<|rM J J<|r_callp J (base_Out_c J) (CoL.refl _) J<|ARun.qv (q_not J) J<|rA J J<|rN<|ATodo.ret<|?_
  obtain rfl := h
  exact ImpX.here ⟨_,.cons (.tmp _ _ J) .nil,J⟩

theorem base_Key_c [GI : GTab] {p0x0 : Str} {r : Bool} (h : base_Key p0x0 = some r) : Pu Tryz.prog 101 [.str p0x0] (.bool r) := by
  unfold base_Key at h
  refine ACall.bodyN Tryz.func101 J Tryz.ntmps101 Tryz.results101 J J ?_
  refine tSR<|rA J J<|rN<|tS<|tS<|ATodo.cut (fun σ'=>∃ (c1 : Bool),base_Key_j1 p0x0 c1 = some r ∧ σ' = ⟨54,[(0,.str p0x0),(21,.bool c1)],[]⟩) ?_ ?_
  · refine tR<|rM J J<|ARun.qv (q_seq J J) J<|rM J J<|ARun.guard_df J J J (fun hc=>?_) (fun hc=>?_)
    · refine have h := iteF hc h; rM J J<|rY J J J<|ARun.qv (q_len_str J) J<|rY J J J<|ARun.qv (q_gtr J J) J<|rE J J J<|rM J J<|ARun.guard_df J J J (fun hc=>?_) (fun hc=>?_)
      · refine have h := iteF hc h; rM J J<|rY J J J<|bndE h fun c2 e1 h=>ARun.qv (t_index_str J J e1) J<|rY J J J<|ARun.qv (q_lss J J) J<|rE J J J<|rM J J<|ARun.guard_df J J J (fun hc=>?_) (fun hc=>?_)
        · exact have h := iteF hc h; rM J J<|rY J J J<|bndE h fun c3 e2 h=>ARun.qv (t_index_str J J e2) J<|rY J J J<|ARun.qv (q_gtr J J) J<|rE J J J<|rN<|ATodo.stop<|ImpX.lq [] ⟨decide ((122 : Int) < (c3.toNat : Int)),h,J⟩ J J
        · exact have h := iteT hc h; rG J J J J<|rG J J J J<|rT J J J<|rN<|ATodo.stop<|ImpX.lq [] ⟨true,h,J⟩ J J
      · exact have h := iteT hc h; rG J J J J<|rG J J J J<|rT J J J<|rM J J<|rG J J J J<|rG J J J J<|rG J J J J<|rT J J J<|rN<|ATodo.stop<|ImpX.lq [] ⟨true,h,J⟩ J J
    · exact have h := iteT hc h; rG J J J J<|rG J J J J<|rT J J J<|rM J J<|rG J J J J<|rG J J J J<|rG J J J J<|rT J J J<|rM J J<|rG J J J J<|rG J J J J<|rG J J J J<|rT J J J<|rN<|ATodo.stop<|ImpX.lq [] ⟨true,h,J⟩ J J
  · rintro σ' ⟨c1, h, rfl⟩
    unfold base_Key_j1 at h
    refine ATodo.cond J (fun hc=>?_) (fun hc=>?_)
    · refine have h := iteT hc h; tSR<|rA J J<|rN<|ATodo.ret<|?_
      obtain rfl := Option.some.inj h
      exact ImpX.here ⟨_,.cons (.tmp _ _ J) .nil,J⟩
    · refine have h := iteFb hc h; tK<|tS<|tSR<|rM J J<|ARun.qv (q_len_str J) J<|rM J J<|rN<|ATodo.block<|ATodo.loopI (fun x : Int=>base_Key_b1 p0x0 x) (fun x σ'=>σ' = ⟨54,[(0,.str p0x0),(23,I (p0x0.length : Int)),(24,I x)],[]⟩) h ?_ ?_
      · exact ImpX.lq [] J J J
      · intro n5 z1 σ' J1 hmk h hJ1 hA1
        obtain rfl := hmk
        replace h : base_Key_b1 p0x0 n5 = some z1 := h
        unfold base_Key_b1 at h
        refine tSR<|ARun.qv (q_lss J J) J<|rN<|tS<|ATodo.cond_d J (fun hc=>?_) (fun hc=>?_)
        · refine have h := iteT hc h; tK<|tS<|ATodo.block<|tSR<|rM J J<|rA J J<|rN<|tSR<|rM J J<|rM J J<|bndE h fun c6 e3 h=>ARun.qv (t_index_str J J e3) J<|rA J J<|rN<|tS<|ATodo.cut (fun σ'=>∃ (c7 : Bool),base_Key_j2 n5 c7 = some z1 ∧ σ' = ⟨54,[(0,.str p0x0),(23,I (p0x0.length : Int)),(24,I n5),(52,.bool c7)],[]⟩) ?_ ?_
          · refine tR<|rM J J<|ARun.qv (q_geq J J) J<|rM J J<|ARun.guard_dt J J J (fun hc=>?_) (fun hc=>?_)
            · rw [if_pos hc] at h
              refine rM J J<|rY J J J<|ARun.qv (q_leq J J) J<|rT J J J<|rM J J<|ARun.guard_df J J J (fun hc=>?_) (fun hc=>?_)
              · rw [if_neg hc] at h
                refine rM J J<|rY J J J<|ARun.qv (q_geq J J) J<|rY J J J<|rM J J<|ARun.guard_dt J J J (fun hc=>?_) (fun hc=>?_)
                · rw [if_pos hc] at h
                  refine rM J J<|rY J J J<|ARun.qv (q_leq J J) J<|rY J J J<|rT J J J<|rE J J J<|rM J J<|ARun.guard_df J J J (fun hc=>?_) (fun hc=>?_)
                  · rw [if_neg hc] at h
                    refine rM J J<|rY J J J<|ARun.qv (q_eql J J) J<|rE J J J<|rM J J<|ARun.guard_df J J J (fun hc=>?_) (fun hc=>?_)
                    · rw [if_neg hc] at h
                      exact rM J J<|rY J J J<|ARun.qv (q_eql J J) J<|rE J J J<|ARun.qv (q_not_d J) J<|rN<|ATodo.stop<|ImpX.lq [] ⟨decide (¬ ((c6.toNat : Int) = (95 : Int))),h,J⟩ J J
                    · rw [if_pos hc] at h
                      exact rG J J J J<|rT J J J<|ARun.qv (q_not J) J<|rN<|ATodo.stop<|ImpX.lq [] ⟨!true,h,J⟩ J J
                  · rw [if_pos hc] at h
                    exact rG J J J J<|rT J J J<|rM J J<|rG J J J J<|rG J J J J<|rT J J J<|ARun.qv (q_not J) J<|rN<|ATodo.stop<|ImpX.lq [] ⟨!true,h,J⟩ J J
                · rw [if_neg hc] at h
                  refine rG J J J J<|rY J J J<|rE J J J<|rE J J J<|rM J J<|rY J J J<|rM J J<|rY J J J<|ARun.qv (q_eql J J) J<|rE J J J<|rM J J<|ARun.guard_df J J J (fun hc=>?_) (fun hc=>?_)
                  · rw [if_neg hc] at h
                    exact rM J J<|rY J J J<|ARun.qv (q_eql J J) J<|rE J J J<|ARun.qv (q_not_d J) J<|rN<|ATodo.stop<|ImpX.lq [] ⟨decide (¬ ((c6.toNat : Int) = (95 : Int))),h,J⟩ J J
                  · rw [if_pos hc] at h
                    exact rG J J J J<|rT J J J<|ARun.qv (q_not J) J<|rN<|ATodo.stop<|ImpX.lq [] ⟨!true,h,J⟩ J J
              · rw [if_pos hc] at h
                exact rG J J J J<|rG J J J J<|ARun.guard_und J J J<|ARun.guard_und J J J<|rG J J J J<|rT J J J<|rM J J<|rG J J J J<|rG J J J J<|rT J J J<|rM J J<|rG J J J J<|rG J J J J<|rT J J J<|ARun.qv (q_not J) J<|rN<|ATodo.stop<|ImpX.lq [] ⟨!true,h,J⟩ J J
            · rw [if_neg hc] at h
              refine rG J J J J<|rE J J J<|rM J J<|rY J J J<|rM J J<|rY J J J<|ARun.qv (q_geq J J) J<|rY J J J<|rM J J<|ARun.guard_dt J J J (fun hc=>?_) (fun hc=>?_)
              · rw [if_pos hc] at h
                refine rM J J<|rY J J J<|ARun.qv (q_leq J J) J<|rY J J J<|rT J J J<|rE J J J<|rM J J<|ARun.guard_df J J J (fun hc=>?_) (fun hc=>?_)
                · rw [if_neg hc] at h
                  refine rM J J<|rY J J J<|ARun.qv (q_eql J J) J<|rE J J J<|rM J J<|ARun.guard_df J J J (fun hc=>?_) (fun hc=>?_)
                  · rw [if_neg hc] at h
                    exact rM J J<|rY J J J<|ARun.qv (q_eql J J) J<|rE J J J<|ARun.qv (q_not_d J) J<|rN<|ATodo.stop<|ImpX.lq [] ⟨decide (¬ ((c6.toNat : Int) = (95 : Int))),h,J⟩ J J
                  · rw [if_pos hc] at h
                    exact rG J J J J<|rT J J J<|ARun.qv (q_not J) J<|rN<|ATodo.stop<|ImpX.lq [] ⟨!true,h,J⟩ J J
                · rw [if_pos hc] at h
                  exact rG J J J J<|rT J J J<|rM J J<|rG J J J J<|rG J J J J<|rT J J J<|ARun.qv (q_not J) J<|rN<|ATodo.stop<|ImpX.lq [] ⟨!true,h,J⟩ J J
              · rw [if_neg hc] at h
                refine rG J J J J<|rY J J J<|rE J J J<|rE J J J<|rM J J<|rY J J J<|rM J J<|rY J J J<|ARun.qv (q_eql J J) J<|rE J J J<|rM J J<|ARun.guard_df J J J (fun hc=>?_) (fun hc=>?_)
                · rw [if_neg hc] at h
                  exact rM J J<|rY J J J<|ARun.qv (q_eql J J) J<|rE J J J<|ARun.qv (q_not_d J) J<|rN<|ATodo.stop<|ImpX.lq [] ⟨decide (¬ ((c6.toNat : Int) = (95 : Int))),h,J⟩ J J
                · rw [if_pos hc] at h
                  exact rG J J J J<|rT J J J<|ARun.qv (q_not J) J<|rN<|ATodo.stop<|ImpX.lq [] ⟨!true,h,J⟩ J J
          · rintro σ' ⟨c7, h, rfl⟩
            unfold base_Key_j2 at h
            refine ATodo.cond J (fun hc=>?_) (fun hc=>?_)
            · refine have h := iteT hc h; tSR<|rA J J<|rN<|ATodo.ret<|have h := outL h hA1; ?_
              obtain rfl := Option.some.inj h
              exact ImpX.here ⟨_,.cons (.tmp _ _ J) .nil,J⟩
            · refine have h := iteFb hc h; tK<|ATodo.blk<|tR<|ARun.qv (q_addw J J) J<|rM J J<|rN<|ATodo.stop<|?_
              obtain rfl := Option.some.inj h
              exact hJ1 _ _ J<|ImpX.lq [] J J J
        · refine have h := iteF hc h; ATodo.exit J<|have h := outL h hA1; tSR<|rA J J<|rN<|ATodo.ret<|?_
          obtain rfl := Option.some.inj h
          exact ImpX.here ⟨_,.cons (.tmp _ _ J) .nil,J⟩

theorem rule_sampleFault_c [GI : GTab] {p0x0 : Sample} {r : Int} (h : rule_sampleFault p0x0 = some r) : Pu Tryz.prog 102 [Sample.av p0x0] (I r) := by
  unfold rule_sampleFault at h
  refine ACall.bodyN Tryz.func102 J Tryz.ntmps102 Tryz.results102 J J ?_
  refine tSR<|n_box J J J J fun b1=>rA J J<|rN<|tS<|ATodo.block<|tSR<|rF J J J<|rL J J .p0 J J<|r_callp J (base_Moment_c J) (CoL.refl _) J<|ARun.qv (q_not J) J<|rA J J<|rN<|ATodo.cond J (fun hc=>?_) (fun hc=>?_)
  · refine have h := iteT hc h; tSR<|rA J J<|rN<|ATodo.ret<|?_
    obtain rfl := Option.some.inj h
    exact ImpX.here ⟨_,.cons (.tmp _ _ J) .nil,J⟩
  · refine have h := iteFb hc h; tS<|ATodo.cut (fun σ'=>∃ (c2 : Bool),rule_sampleFault_j1 p0x0 c2 = some r ∧ σ' = ⟨23,[(1,.ptr b1 0),(8,.bool c2)],[(b1,.cells (cE0 p0x0))]⟩) ?_ ?_
    · refine tR<|rF J J J<|rL J J .p0 J J<|bndE h fun v3 e1 h=>r_callp J (base_Key_c e1) (CoL.refl _) J<|ARun.qv (q_not J) J<|rM J J<|ARun.guard J J J (fun hc=>?_) (fun hc=>?_)
      · exact have h := iteFb hc h; rF J J J<|rY J J J<|rL J J .p0 J J<|rY J J J<|bndE h fun v4 e2 h=>r_callp J (base_Key_c e2) (CoL.refl _) J<|rY J J J<|ARun.qv (q_not J) J<|rE J J J<|rA J J<|rN<|ATodo.stop<|ImpX.lq [0] ⟨!v4,h,J⟩ J J
      · exact have h := iteT hc h; rG J J J J<|rG J J J J<|rG J J J J<|rT J J J<|rA J J<|rN<|ATodo.stop<|ImpX.lq [0] ⟨true,h,J⟩ J J
    · rintro σ' ⟨c2, h, rfl⟩
      unfold rule_sampleFault_j1 at h
      refine ATodo.cond J (fun hc=>?_) (fun hc=>?_)
      · refine have h := iteT hc h; tSR<|rA J J<|rN<|ATodo.ret<|?_
        obtain rfl := Option.some.inj h
        exact ImpX.here ⟨_,.cons (.tmp _ _ J) .nil,J⟩
      · refine have h := iteFb hc h; tSR<|rF J J J<|rL J J .p0 J J<|r_callp J (base_Out_c J) (CoL.refl _) J<|rA J J<|rN<|ATodo.cond J (fun hc=>?_) (fun hc=>?_)
        · refine have h := iteT hc h; tSR<|rA J J<|rN<|ATodo.ret<|?_
          obtain rfl := Option.some.inj h
          exact ImpX.here ⟨_,.cons (.tmp _ _ J) .nil,J⟩
        · refine have h := iteFb hc h; tK<|ATodo.blk<|tSR<|rA J J<|rN<|ATodo.ret<|?_
          obtain rfl := Option.some.inj h
          exact ImpX.here ⟨_,.cons (.tmp _ _ J) .nil,J⟩

theorem cmp_isNaN_int_c [GI : GTab] {p0x0 : Int} {r : Bool} (h : cmp_isNaN_int p0x0 = r) : Pu Tryz.prog 149 [I p0x0] (.bool r) := by
  unfold cmp_isNaN_int at h
  refine ACall.bodyN Tryz.func149 J Tryz.ntmps149 Tryz.results149 J J ?_
  refine tSR<|rA J J<|rN<|tSR<|rM J J<|rM J J<|ARun.qv (q_neq J J) J<|rA J J<|rN<|ATodo.ret<|?_
  obtain rfl := h
  exact ImpX.here ⟨_,.cons (.tmp _ _ J) .nil,J⟩

theorem cmp_Compare_int_c [GI : GTab] {p0x0 : Int} {p1x0 : Int} {r : Int} (h : cmp_Compare_int p0x0 p1x0 = r) : Pu Tryz.prog 108 [I p0x0,I p1x0] (I r) := by
  unfold cmp_Compare_int at h
  refine ACall.bodyN Tryz.func108 J Tryz.ntmps108 Tryz.results108 J J ?_
  refine tSR<|rA J J<|rN<|tSR<|rM J J<|r_callp J (cmp_isNaN_int_c J) (CoL.refl _) J<|rA J J<|rN<|tSR<|rM J J<|r_callp J (cmp_isNaN_int_c J) (CoL.refl _) J<|rA J J<|rN<|tS<|tSR<|rM J J<|rN<|ATodo.cond J (fun hc=>?_) (fun hc=>?_)
  · refine have h := iteT hc h; tS<|tSR<|rM J J<|rN<|ATodo.cond J (fun hc=>?_) (fun hc=>?_)
    · refine have h := iteT hc h; tSR<|rA J J<|rN<|ATodo.ret<|?_
      obtain rfl := h
      exact ImpX.here ⟨_,.cons (.tmp _ _ J) .nil,J⟩
    · refine have h := iteFb hc h; tK<|tSR<|rA J J<|rN<|ATodo.ret<|?_
      obtain rfl := h
      exact ImpX.here ⟨_,.cons (.tmp _ _ J) .nil,J⟩
  · refine have h := iteFb hc h; tK<|tS<|tSR<|rM J J<|rN<|ATodo.cond J (fun hc=>?_) (fun hc=>?_)
    · refine have h := iteT hc h; tSR<|rA J J<|rN<|ATodo.ret<|?_
      obtain rfl := h
      exact ImpX.here ⟨_,.cons (.tmp _ _ J) .nil,J⟩
    · refine have h := iteFb hc h; tK<|tS<|tSR<|rM J J<|rM J J<|ARun.qv (q_lss J J) J<|rN<|ATodo.cond_d J (fun hc=>?_) (fun hc=>?_)
      · refine have h := iteT hc h; tSR<|rA J J<|rN<|ATodo.ret<|?_
        obtain rfl := h
        exact ImpX.here ⟨_,.cons (.tmp _ _ J) .nil,J⟩
      · refine have h := iteF hc h; tK<|tS<|tSR<|rM J J<|rM J J<|ARun.qv (q_gtr J J) J<|rN<|ATodo.cond_d J (fun hc=>?_) (fun hc=>?_)
        · refine have h := iteT hc h; tSR<|rA J J<|rN<|ATodo.ret<|?_
          obtain rfl := h
          exact ImpX.here ⟨_,.cons (.tmp _ _ J) .nil,J⟩
        · refine have h := iteF hc h; tK<|tSR<|rA J J<|rN<|ATodo.ret<|?_
          obtain rfl := h
          exact ImpX.here ⟨_,.cons (.tmp _ _ J) .nil,J⟩

theorem cmp_Or_int_c [GI : GTab] {p0x0 : List Int} {r : Int} (h : cmp_Or_int p0x0 = some r) : Pu Tryz.prog 135 [lE0 p0x0] (I r) := by
  unfold cmp_Or_int at h
  refine ACall.bodyN Tryz.func135 J Tryz.ntmps135 Tryz.results135 J J ?_
  refine tSR<|rA J J<|rN<|tSR<|rA J J<|rN<|tS<|tSR<|rM J J<|ARun.qv (t_len J) J<|rM J J<|rN<|ATodo.block<|ATodo.loopI (fun x : Int=>cmp_Or_int_b1 p0x0 x) (fun x σ'=>σ' = ⟨18,[(3,I (0 : Int)),(6,lE0 p0x0),(7,I (p0x0.length : Int)),(8,I x)],[]⟩) h ?_ ?_
  · exact ImpX.lq [] J J J
  · intro n2 z1 σ' J1 hmk h hJ1 hA1
    obtain rfl := hmk
    replace h : cmp_Or_int_b1 p0x0 n2 = some z1 := h
    unfold cmp_Or_int_b1 at h
    refine tSR<|ARun.qv (q_lss J J) J<|rN<|tS<|ATodo.cond_d J (fun hc=>?_) (fun hc=>?_)
    · refine have h := iteT hc h; tK<|tS<|ATodo.block<|tSR<|bndE h fun v3 e1 h=>ARun.qv (t_index J J J e1 J J) J<|ARun.qv (q_load_rptr J J J) J<|rA J J<|rN<|tSR<|rM J J<|rM J J<|ARun.qv (q_neq J J) J<|rN<|ATodo.cond_d J (fun hc=>?_) (fun hc=>?_)
      · refine have h := iteT hc h; tSR<|rM J J<|rA J J<|rN<|ATodo.ret<|have h := outL h hA1; ?_
        obtain rfl := Option.some.inj h
        exact ImpX.here ⟨_,.cons (.tmp _ _ J) .nil,J⟩
      · refine have h := iteF hc h; tK<|ATodo.blk<|tR<|ARun.qv (q_addw J J) J<|rM J J<|rN<|ATodo.stop<|?_
        obtain rfl := Option.some.inj h
        exact hJ1 _ _ J<|ImpX.lq [] J J J
    · refine have h := iteF hc h; ATodo.exit J<|have h := outL h hA1; tSR<|rM J J<|rA J J<|rN<|ATodo.ret<|?_
      obtain rfl := Option.some.inj h
      exact ImpX.here ⟨_,.cons (.tmp _ _ J) .nil,J⟩

theorem rule_byMoment_c [GI : GTab] {p0x0 : Sample} {p1x0 : Sample} {r : Int} (h : rule_byMoment p0x0 p1x0 = some r) : Pu Tryz.prog 95 [Sample.av p0x0,Sample.av p1x0] (I r) := by
  unfold rule_byMoment at h
  refine ACall.bodyN Tryz.func95 J Tryz.ntmps95 Tryz.results95 J J ?_
  refine tSR<|n_box J J J J fun b1=>n_box J J J J fun b2=>rA J J<|rN<|tS<|ATodo.regionM (id := 1) (A := [0,1,0,4,15,0,32,0,128,511,0,1024,0,4096,16383,32767,65535,131071]) 18 mixed J (by kernel_rfl) (by kernel_rfl)<|AM.qv (n_field_ptr J J) J<|AM.qv (q_load_ptr J J .p1 J) J<|AM.qv (n_field_ptr J J) J<|AM.qv (q_load_ptr J J .p0 J) J<|AM.callp J (cmp_Compare_int_c J) (CoL.refl _) J<|AM.qv (n_field_ptr J J) J<|AM.qv (q_load_ptr J J .p1 J) J<|AM.qv (n_field_ptr J J) J<|AM.qv (q_load_ptr J J .p0 J) J<|AM.callp J (strings_Compare_c J) (CoL.refl _) J<|AM.qv (n_field_ptr J J) J<|AM.qv (q_load_ptr J J .p1 J) J<|AM.qv (n_field_ptr J J) J<|AM.qv (q_load_ptr J J .p0 J) J<|AM.callp J (strings_Compare_c J) (CoL.refl _) J<|AM.buildSliceL (xs := ([(cmp_Compare_int p0x0.At p1x0.At),(Lib.compareBytes p0x0.Device p1x0.Device),(Lib.compareBytes p0x0.Metric p1x0.Metric)] : List Int).map I) J J J J J J<|bndE h fun v3 e1 h=>AM.callp J (cmp_Or_int_c e1) (CoL.refl _) J<|AM.qv (q_assign J) J<|AM.nil<|rN<|ATodo.ret<|?_
  obtain rfl := Option.some.inj h
  exact ImpX.here ⟨_,.cons (.tmp _ _ J) .nil,J⟩

theorem rule_CheckSamples_c [GI : GTab] {p0x0 : List Sample} {r : Int} (h : rule_CheckSamples p0x0 = some r) : Pu Tryz.prog 40 [lE3 p0x0] (I r) := by
  unfold rule_CheckSamples at h
  refine ACall.bodyN Tryz.func40 J Tryz.ntmps40 Tryz.results40 J J ?_
  refine tSR<|rA J J<|rN<|tS<|tSR<|rM J J<|ARun.qv (t_len J) J<|ARun.qv (q_gtr J J) J<|rN<|ATodo.cond_d J (fun hc=>?_) (fun hc=>?_)
  · refine have h := iteT hc h; tSR<|rA J J<|rN<|ATodo.ret<|?_
    obtain rfl := Option.some.inj h
    exact ImpX.here ⟨_,.cons (.tmp _ _ J) .nil,J⟩
  · refine have h := iteF hc h; tK<|tS<|tSR<|rM J J<|ARun.qv (t_len J) J<|rM J J<|rN<|ATodo.block<|ATodo.loopI (fun x : Int=>rule_CheckSamples_b1 p0x0 x) (fun x σ'=>σ' = ⟨34,[(0,lE3 p0x0),(9,lE3 p0x0),(10,I (p0x0.length : Int)),(11,I x)],[]⟩) h ?_ ?_
    · exact ImpX.lq [] J J J
    · intro n2 z1 σ' J1 hmk h hJ1 hA1
      obtain rfl := hmk
      replace h : rule_CheckSamples_b1 p0x0 n2 = some z1 := h
      unfold rule_CheckSamples_b1 at h
      refine tSR<|ARun.qv (q_lss J J) J<|rN<|tS<|ATodo.cond_d J (fun hc=>?_) (fun hc=>?_)
      · refine have h := iteT hc h; tK<|tS<|ATodo.block<|tSR<|rM J J<|bndE h fun v3 e1 h=>ARun.qv (t_index J J J e1 J J) J<|ARun.qv (q_load_rptr_agg J J J) J<|n_alloc J J J J fun b4=>rA J J<|n_store_ptr J J J J .p0 J J<|rN<|tS<|tSR<|ARun.qv (q_load_ptr_all J J .p0 J) J<|bndE h fun v5 e2 h=>r_callp J (rule_sampleFault_c e2) (CoL.refl _) J<|rA J J<|rN<|tSR<|rM J J<|ARun.qv (q_neq J J) J<|rN<|ATodo.cond_d J (fun hc=>?_) (fun hc=>?_)
        · refine have h := iteT hc h; tSR<|rM J J<|rA J J<|rN<|ATodo.ret<|have h := outL h hA1; ?_
          obtain rfl := Option.some.inj h
          exact ImpX.here ⟨_,.cons (.tmp _ _ J) .nil,J⟩
        · refine have h := iteF hc h; tK<|tS<|ATodo.cut (fun σ'=>∃ (c6 : Bool),rule_CheckSamples_j1 n2 c6 = some z1 ∧ σ' = ⟨34,[(0,lE3 p0x0),(9,lE3 p0x0),(10,I (p0x0.length : Int)),(11,I n2),(32,.bool c6)],[]⟩) ?_ ?_
          · refine ATodo.regionM (id := 9) (A := [0,1,3,7,7,7,39,119,247,511,1023,2047]) 12 mixed J (by kernel_rfl) (by kernel_rfl)<|AM.qv (q_move J) J<|AM.qv (q_gtr J J) J<|AM.qv (q_move J) J<|AM.guard_dt J J J (fun hc=>?_) (fun hc=>?_)
            · exact have h := iteT hc h; AM.qv (q_load_ptr_all J J .p0 J) J<|AM.guard_yes J J J<|AM.qv (q_move J) J<|AM.guard_yes J J J<|AM.qv (q_move J) J<|AM.guard_yes J J J<|AM.qv (q_subw J J) J<|AM.guard_yes J J J<|bndE h fun v7 e3 h=>AM.qv (t_index J J J e3 J J) J<|AM.guard_yes J J J<|AM.qv (q_load_rptr_agg J J J) J<|AM.guard_yes J J J<|bndE h fun v8 e4 h=>AM.callp J (rule_byMoment_c e4) (CoL.refl _) J<|AM.guard_yes J J J<|AM.qv (q_leq J J) J<|AM.qv (q_pick_t J J) J<|AM.nil<|rN<|ATodo.stop<|ImpX.lq [] ⟨decide (v8 ≤ (0 : Int)),h,J⟩ J J
            · exact have h := iteF hc h; AM.guard_no J J J J<|AM.guard_no J J J J<|AM.guard_no J J J J<|AM.guard_no J J J J<|AM.guard_no J J J J<|AM.guard_no J J J J<|AM.guard_no J J J J<|AM.qv (q_pick_f J J) J<|AM.nil<|rN<|ATodo.stop<|ImpX.lq [] ⟨false,h,J⟩ J J
          · rintro σ' ⟨c6, h, rfl⟩
            unfold rule_CheckSamples_j1 at h
            refine ATodo.cond J (fun hc=>?_) (fun hc=>?_)
            · refine have h := iteT hc h; tSR<|rA J J<|rN<|ATodo.ret<|have h := outL h hA1; ?_
              obtain rfl := Option.some.inj h
              exact ImpX.here ⟨_,.cons (.tmp _ _ J) .nil,J⟩
            · refine have h := iteFb hc h; tK<|ATodo.blk<|tR<|ARun.qv (q_addw J J) J<|rM J J<|rN<|ATodo.stop<|?_
              obtain rfl := Option.some.inj h
              exact hJ1 _ _ J<|ImpX.lq [] J J J
      · refine have h := iteF hc h; ATodo.exit J<|have h := outL h hA1; tSR<|rA J J<|rN<|ATodo.ret<|?_
        obtain rfl := Option.some.inj h
        exact ImpX.here ⟨_,.cons (.tmp _ _ J) .nil,J⟩

theorem base_First_c [GI : GTab] {p0x0 : List Int} {r : Int} (h : base_First p0x0 = some r) : Pu Tryz.prog 88 [lE0 p0x0] (I r) := by
  unfold base_First at h
  refine ACall.bodyN Tryz.func88 J Tryz.ntmps88 Tryz.results88 J J ?_
  refine tSR<|rA J J<|rN<|tS<|tSR<|rM J J<|ARun.qv (t_len J) J<|rM J J<|rN<|ATodo.block<|ATodo.loopI (fun x : Int=>base_First_b1 p0x0 x) (fun x σ'=>σ' = ⟨15,[(5,lE0 p0x0),(6,I (p0x0.length : Int)),(7,I x)],[]⟩) h ?_ ?_
  · exact ImpX.lq [] J J J
  · intro n2 z1 σ' J1 hmk h hJ1 hA1
    obtain rfl := hmk
    replace h : base_First_b1 p0x0 n2 = some z1 := h
    unfold base_First_b1 at h
    refine tSR<|ARun.qv (q_lss J J) J<|rN<|tS<|ATodo.cond_d J (fun hc=>?_) (fun hc=>?_)
    · refine have h := iteT hc h; tK<|tS<|ATodo.block<|tSR<|bndE h fun v3 e1 h=>ARun.qv (t_index J J J e1 J J) J<|ARun.qv (q_load_rptr J J J) J<|rA J J<|rN<|tSR<|rM J J<|ARun.qv (q_neq J J) J<|rN<|ATodo.cond_d J (fun hc=>?_) (fun hc=>?_)
      · refine have h := iteT hc h; tSR<|rM J J<|rA J J<|rN<|ATodo.ret<|have h := outL h hA1; ?_
        obtain rfl := Option.some.inj h
        exact ImpX.here ⟨_,.cons (.tmp _ _ J) .nil,J⟩
      · refine have h := iteF hc h; tK<|ATodo.blk<|tR<|ARun.qv (q_addw J J) J<|rM J J<|rN<|ATodo.stop<|?_
        obtain rfl := Option.some.inj h
        exact hJ1 _ _ J<|ImpX.lq [] J J J
    · refine have h := iteF hc h; ATodo.exit J<|have h := outL h hA1; tSR<|rA J J<|rN<|ATodo.ret<|?_
      obtain rfl := Option.some.inj h
      exact ImpX.here ⟨_,.cons (.tmp _ _ J) .nil,J⟩

theorem slices_Grow_Sample_Sample_n0x_c [GI : GTab] {p1x0 : Int} {r : (List Sample)} (h : slices_Grow_Sample_Sample_n0x p1x0 = some r) : ACall Tryz.prog 142 [.nil,I p1x0] [] (T1 (fun d_0=>[(d_0,aE3 r)]) (fun d_0=>.sl 4 d_0 0 r.length)) := by
  unfold slices_Grow_Sample_Sample_n0x at h
  refine ACall.lessH ?_
  refine ACall.bodyN Tryz.func142 J Tryz.ntmps142 Tryz.results142 J J ?_
  refine tSR<|rA J J<|rN<|tS<|tSR<|rM J J<|ARun.qv (q_lss J J) J<|rN<|ATodo.cond_d J (fun hc=>?_) (fun hc=>?_)
  · refine have h := iteT hc h; tR<|?_
    cases h
  · refine have h := iteF hc h; tK<|tS<|tSR<|rM J J<|rM J J<|ARun.qv (q_cap_nil J) J<|rM J J<|ARun.qv (q_len_nil J) J<|ARun.qv (q_subw J J) J<|ARun.qv (q_subw J J) J<|rA J J<|rN<|tSR<|rM J J<|ARun.qv (q_gtr J J) J<|rN<|ATodo.cut (fun σ'=>∃ (b1 : Bk) (l2 : List Sample),slices_Grow_Sample_Sample_n0x_j1 l2 = some r ∧ σ' = ⟨27,[(0,.sl 4 b1 0 l2.length)],[(b1,aE3 l2)]⟩) ?_ ?_
    · refine ATodo.cond_d J (fun hc=>?_) (fun hc=>?_)
      · exact have h := iteT hc h; tR<|rM J J<|rM J J<|ARun.qv (q_cap_nil J) J<|bndE h fun l3 e1 h=>ARun.qv (t_slice_nil J .none (.some _ _ _ J) J J e1) J<|rM J J<|bndE h fun l4 e2 h=>t_appendZ (g := Sample.av) (Z := (⟨[],[],(0 : Int),(0 : Int)⟩ : Sample)) J J J J J J J J J e2 fun b5=>rM J J<|ARun.qv (q_len_nil J) J<|bndE h fun l6 e3 h=>ARun.qv (t_slice_sl J J .none (.some _ _ _ J) J J e3) J<|rA J J<|ARun.ghost<|ImpX.takeT e3 .p0<|ImpX.here<|rN<|ATodo.stop<|ImpX.lq [0] ⟨b5,l6,h,J⟩ J J
      · exact have h := iteF hc h; tK<|ATodo.stop<|ImpX.arr (s := 0) 4 J fun b7=>ImpX.lq [0] ⟨b7,[],h,J⟩ J J
    · rintro σ' ⟨b1, l2, h, rfl⟩
      unfold slices_Grow_Sample_Sample_n0x_j1 at h
      refine tSR<|rM J J<|rA J J<|rN<|ATodo.ret<|?_
      obtain rfl := Option.some.inj h
      exact ImpX.here ⟨_,.cons (.tmp _ _ J) .nil,_,.cons .p0 .nil,⟨b1,J,J⟩⟩

theorem slices_Concat_Sample_Sample_c [GI : GTab] {p0x0 : List (List Sample)} {r : (List Sample)} (h : slices_Concat_Sample_Sample p0x0 = some r) : ACall Tryz.prog 93 [lE4 p0x0] [] (T1 (fun d_0=>[(d_0,aE3 r)]) (fun d_0=>.sl 4 d_0 0 r.length)) := by
  unfold slices_Concat_Sample_Sample at h
  refine ACall.lessH ?_
  refine ACall.bodyN Tryz.func93 J Tryz.ntmps93 Tryz.results93 J J ?_
  refine tSR<|rA J J<|rN<|tSR<|rA J J<|rN<|tS<|tSR<|rM J J<|ARun.qv (t_len J) J<|rM J J<|rN<|ATodo.block<|ATodo.loopI (fun x : Int × Int=>slices_Concat_Sample_Sample_b1 p0x0 x.1 x.2) (fun x σ'=>σ' = ⟨36,[(0,lE4 p0x0),(3,I x.1),(9,lE4 p0x0),(10,I (p0x0.length : Int)),(11,I x.2)],[]⟩) h ?_ ?_
  · exact ImpX.lq [] J J J
  · intro x z1 σ' J1 hmk h hJ1 hA1
    obtain ⟨n3, n4⟩ := x
    obtain rfl := hmk
    replace h : slices_Concat_Sample_Sample_b1 p0x0 n3 n4 = some z1 := h
    unfold slices_Concat_Sample_Sample_b1 at h
    refine tSR<|ARun.qv (q_lss J J) J<|rN<|tS<|ATodo.cond_d J (fun hc=>?_) (fun hc=>?_)
    · refine have h := iteT hc h; tK<|tS<|ATodo.block<|tSR<|bndE h fun v5 e1 h=>ARun.qv (t_index J J J e1 J J) J<|ARun.qv (q_load_rptr J J J) J<|rA J J<|rN<|tSR<|rM J J<|rM J J<|ARun.qv (t_len J) J<|ARun.qv (q_addw J J) J<|rA J J<|rN<|tSR<|rM J J<|ARun.qv (q_lss J J) J<|rN<|ATodo.cond_d J (fun hc=>?_) (fun hc=>?_)
      · refine have h := iteT hc h; tR<|?_
        cases h
      · refine have h := iteF hc h; tK<|ATodo.blk<|tR<|ARun.qv (q_addw J J) J<|rM J J<|rN<|ATodo.stop<|?_
        obtain rfl := Option.some.inj h
        exact hJ1 _ _ J<|ImpX.lq [] J J J
    · refine have h := iteF hc h; ATodo.exit J<|have h := outL h hA1; ?_
      unfold slices_Concat_Sample_Sample_k1 at h
      refine tSR<|rM J J<|bndE h fun v6 e2 h=>t_call1 J (slices_Grow_Sample_Sample_n0x_c e2) (CoL.refl _) .nil (fun _=>J) J fun b7=>rA J J<|rN<|tS<|tSR<|rM J J<|ARun.qv (t_len J) J<|rM J J<|rN<|ATodo.block<|ATodo.loopI (fun x : (List Sample) × Int=>slices_Concat_Sample_Sample_b2 p0x0 x.1 x.2) (fun x σ'=>∃ (b11 : Bk),σ' = ⟨36,[(6,.sl 4 b11 0 x.1.length),(25,lE4 p0x0),(26,I (p0x0.length : Int)),(27,I x.2)],[(b11,aE3 x.1)]⟩) h ?_ ?_
      · exact ImpX.lq [0] ⟨b7,J⟩ J J
      · intro x z2 σ' J2 hmk h hJ2 hA2
        obtain ⟨l12, n13⟩ := x
        obtain ⟨b11, rfl⟩ := hmk
        replace h : slices_Concat_Sample_Sample_b2 p0x0 l12 n13 = some z2 := h
        unfold slices_Concat_Sample_Sample_b2 at h
        refine tSR<|ARun.qv (q_lss J J) J<|rN<|tS<|ATodo.cond_d J (fun hc=>?_) (fun hc=>?_)
        · refine have h := iteT hc h; tK<|tS<|ATodo.block<|tSR<|bndE h fun v14 e3 h=>ARun.qv (t_index J J J e3 J J) J<|ARun.qv (q_load_rptr J J J) J<|rA J J<|rN<|tR<|rM J J<|rM J J<|bndE h fun l15 e4 h=>t_append (g := Sample.av) J J J J J J J J (.list _) e4 (fun _=>.p0) J fun b16=>rA J J<|rN<|ATodo.blk<|tR<|ARun.qv (q_addw J J) J<|rM J J<|rN<|ATodo.stop<|?_
          obtain rfl := Option.some.inj h
          exact hJ2 _ _ J<|ImpX.lq [0] ⟨b16,J⟩ J J
        · refine have h := iteF hc h; ATodo.exit J<|have h := outL h hA2; tSR<|rM J J<|rA J J<|rN<|ATodo.ret<|?_
          obtain rfl := Option.some.inj h
          exact ImpX.here ⟨_,.cons (.tmp _ _ J) .nil,_,.cons .p0 .nil,⟨b11,J,J⟩⟩

theorem slices_SortFunc_Sample_Sample_k : SortK Tryz.prog 94 4 := ⟨fun enc hk h1 cf hO g cb blk off cap d w eg hc hH hb hs=>AnyQ.slices_SortFunc_eq Tryz.sortF94 4 Tryz.isAgg66 Tryz.sizeOf66 enc hk h1 cf hO g cb blk off cap d w eg hc hH hb hs,fun p cap fv w=>AnyF.slices_SortFunc_none Tryz.sortF94 p cap fv w⟩
theorem slices_SortFunc_Sample_Sample_c [GI : GTab] {b_0 : Bk} {p0x0 : List Sample} {fnb : Sample → Sample → Option Int} {fnb_F : FuncId} [IsFn Tryz.prog fnb_F] {fnb_C : List AV} (fnb_h : ∀ {y0 y1 : _} {u : Int},fnb y0 y1 = some u → @Pu strongT Tryz.prog fnb_F (Sample.av y0 :: Sample.av y1 :: fnb_C) (I u)) {r : (List Sample)} (h : slices_SortFunc_Sample_Sample p0x0 fnb = some r) : ACall Tryz.prog 94 [.sl 4 b_0 0 p0x0.length,.func (.func fnb_F) fnb_C] [(b_0,.arr 4 (p0x0.map Sample.av))] (T0 [(b_0,.arr 4 (r.map Sample.av))] (.tup [])) :=
  sort_acall (fn := fnb) slices_SortFunc_Sample_Sample_k J @fnb_h (fun _=>J) h

theorem slices_Compact_Sample_Sample_c [GI : GTab] {b_0 : Bk} {p0x0 : List Sample} {r : (List Sample)} (h : slices_Compact_Sample_Sample p0x0 = some r) : ACall Tryz.prog 96 [.sl 4 b_0 0 p0x0.length] [(b_0,aE3 p0x0)] (T1 (fun d_0=>[(d_0,aE3 r)]) (fun d_0=>.sl 4 d_0 0 r.length)) := by
  unfold slices_Compact_Sample_Sample at h
  refine ACall.lessH ?_
  refine ACall.bodyN Tryz.func96 J Tryz.ntmps96 Tryz.results96 J J ?_
  refine tSR<|rA J J<|rN<|tS<|tSR<|rM J J<|ARun.qv (t_len_sl J) J<|ARun.qv (q_lss J J) J<|rN<|ATodo.cond_d J (fun hc=>?_) (fun hc=>?_)
  · refine have h := iteT hc h; tSR<|rM J J<|rA J J<|rN<|ATodo.ret<|?_
    obtain rfl := Option.some.inj h
    exact ImpX.here ⟨_,.cons (.tmp _ _ J) .nil,_,.cons .p0 .nil,⟨b_0,J,J⟩⟩
  · refine have h := iteF hc h; tK<|tS<|tSR<|rA J J<|rN<|ATodo.block<|ATodo.loopI (fun x : Int=>slices_Compact_Sample_Sample_b1 p0x0 x) (fun x σ'=>σ' = ⟨61,[(0,.sl 4 b_0 0 p0x0.length),(3,I x)],[(b_0,aE3 p0x0)]⟩) h ?_ ?_
    · exact ImpX.lq [0] J J J
    · intro n2 z1 σ' J1 hmk h hJ1 hA1
      obtain rfl := hmk
      replace h : slices_Compact_Sample_Sample_b1 p0x0 n2 = some z1 := h
      unfold slices_Compact_Sample_Sample_b1 at h
      refine tS<|tSR<|rM J J<|rM J J<|ARun.qv (t_len_sl J) J<|ARun.qv (q_lss J J) J<|rN<|ATodo.cond_d J (fun hc=>?_) (fun hc=>?_)
      · refine have h := iteT hc h; tK<|tS<|ATodo.block<|tS<|ATodo.regionM (id := 6) (A := [0,0,3,7,0,0,32,112,240,511]) 10 mixed J (by kernel_rfl) (by kernel_rfl)<|AM.qv (q_move J) J<|AM.qv (q_move J) J<|bndE h fun v3 e1 h=>AM.qv (t_index_sl J J J e1) J<|AM.qv (t_load_aptr_agg (g := Sample.av) J J (.inl .p0) J e1 J) J<|AM.qv (q_move J) J<|AM.qv (q_move J) J<|AM.qv (q_subw J J) J<|bndE h fun v4 e2 h=>AM.qv (t_index_sl J J J e2) J<|AM.qv (t_load_aptr_agg (g := Sample.av) J J (.inl .p0) J e2 J) J<|AM.qv (t_teq (g := Sample.av) (X := v3) (Y := v4) J J J J J) J<|AM.nil<|rN<|ATodo.cond_d J (fun hc=>?_) (fun hc=>?_)
        · refine have h := iteT hc h; tSR<|rM J J<|rM J J<|bndE h fun l5 e3 h=>ARun.qv (t_slice_sl J J (.some _ _ _ J) .none J J e3) J<|rA J J<|rN<|tS<|tSR<|rA J J<|rN<|ATodo.block<|ATodo.loopI (fun x : (List Sample) × Int × Int=>slices_Compact_Sample_Sample_b2 n2 l5 x.1 x.2.1 x.2.2) (fun x σ'=>σ' = ⟨61,[(0,.sl 4 b_0 0 x.1.length),(3,I x.2.1),(4,.sl 4 b_0 n2.toNat l5.length),(5,I x.2.2)],[(b_0,aE3 x.1)]⟩) h ?_ ?_
          · exact ImpX.lq [0] J J J
          · intro x z2 σ' J2 hmk h hJ2 hA2
            obtain ⟨l9, n10, n11⟩ := x
            obtain rfl := hmk
            replace h : slices_Compact_Sample_Sample_b2 n2 l5 l9 n10 n11 = some z2 := h
            unfold slices_Compact_Sample_Sample_b2 at h
            refine tS<|tSR<|rM J J<|rM J J<|ARun.qv (t_len_sub J) J<|ARun.qv (q_lss J J) J<|rN<|ATodo.cond_d J (fun hc=>?_) (fun hc=>?_)
            · refine have h := iteT hc h; tK<|tS<|ATodo.block<|tS<|ATodo.regionM (id := 11) (A := [0,0,3,7,0,0,32,112,240,511]) 10 mixed J (by kernel_rfl) (by kernel_rfl)<|AM.qv (q_move J) J<|AM.qv (q_move J) J<|bndE h fun v12 e4 h=>AM.qv (t_index_sub (L := n2) J J J e4) J<|AM.qv (t_load_aptr_agg (g := Sample.av) J J (.inl .p0) J (idxS_some e4).2 J) J<|AM.qv (q_move J) J<|AM.qv (q_move J) J<|AM.qv (q_subw J J) J<|bndE h fun v13 e5 h=>AM.qv (t_index_sub (L := n2) J J J e5) J<|AM.qv (t_load_aptr_agg (g := Sample.av) J J (.inl .p0) J (idxS_some e5).2 J) J<|AM.qv (t_tne (g := Sample.av) (X := v12) (Y := v13) J J J J J) J<|AM.nil<|rN<|ATodo.cut (fun σ'=>∃ (l14 : List Sample) (n15 : Int),slices_Compact_Sample_Sample_j1 n11 l14 n15 = some z2 ∧ σ' = ⟨61,[(0,.sl 4 b_0 0 l14.length),(3,I n15),(4,.sl 4 b_0 n2.toNat l5.length),(5,I n11)],[(b_0,aE3 l14)]⟩) ?_ ?_
              · refine ATodo.cond_d J (fun hc=>?_) (fun hc=>?_)
                · exact have h := iteT hc h; tSR<|rM J J<|rM J J<|rM J J<|rM J J<|bndE h fun v16 e6 h=>ARun.qv (t_index_sub (L := n2) J J J e6) J<|ARun.qv (t_load_aptr_agg (g := Sample.av) J J (.inl .p0) J (idxS_some e6).2 J) J<|bndE h fun v17 e7 h=>ARun.qv (t_index_sl J J J e7) J<|t_store_aptr1 (g := Sample.av) (el' := v16) J J J J e7 J .p0 J<|ARun.ghost<|ImpX.eqs (s := 0) (av' := .sl 4 b_0 0 (l9.set n10.toNat v16).length) J (by rw [List.length_set])<|ImpX.here<|ARun.ghost<|ImpX.eqs (s := 45) (av' := .sl 4 b_0 0 (l9.set n10.toNat v16).length) J (by rw [List.length_set])<|ImpX.here<|rN<|tR<|rM J J<|ARun.qv (q_addw J J) J<|rA J J<|rN<|ATodo.stop<|ImpX.lq [0] ⟨l9.set n10.toNat v16,w64 (n10 + (1 : Int)),h,J⟩ J J
                · exact have h := iteF hc h; tK<|ATodo.stop<|ImpX.lq [0] ⟨l9,n10,h,J⟩ J J
              · rintro σ' ⟨l14, n15, h, rfl⟩
                unfold slices_Compact_Sample_Sample_j1 at h
                refine ATodo.blk<|tR<|rM J J<|ARun.qv (q_addw J J) J<|rA J J<|rN<|ATodo.stop<|?_
                obtain rfl := Option.some.inj h
                exact hJ2 _ _ J<|ImpX.lq [0] J J J
            · refine have h := iteF hc h; ATodo.exit J<|have h := outL h hA2; ?_
              unfold slices_Compact_Sample_Sample_k2 at h
              refine tSR<|rM J J<|rM J J<|bndE h fun l18 e8 h=>ARun.qv (t_slice_sl J J (.some _ _ _ J) .none J J e8) J<|t_clear (g := Sample.av) (Z := (⟨[],[],(0 : Int),(0 : Int)⟩ : Sample)) (L := n10) J J J J J J e8 .p0<|ARun.ghost<|ImpX.eqs (s := 0) (av' := .sl 4 b_0 0 (clr l9 n10 l18.length (⟨[],[],(0 : Int),(0 : Int)⟩ : Sample)).length) J (congrArg (AV.sl 4 b_0 0) (clr_len e8))<|ImpX.here<|ARun.ghost<|ImpX.eqs (s := 54) (av' := .sl 4 b_0 0 (clr l9 n10 l18.length (⟨[],[],(0 : Int),(0 : Int)⟩ : Sample)).length) J (congrArg (AV.sl 4 b_0 0) (clr_len e8))<|ImpX.here<|rN<|tSR<|rM J J<|rM J J<|bndE h fun l19 e9 h=>ARun.qv (t_slice_sl J J .none (.some _ _ _ J) J J e9) J<|rA J J<|ARun.ghost<|ImpX.takeT e9 .p0<|ImpX.here<|rN<|ATodo.ret<|have h := outL h hA1; ?_
              obtain rfl := Option.some.inj h
              exact ImpX.here ⟨_,.cons (.tmp _ _ J) .nil,_,.cons .p0 .nil,⟨b_0,J,J⟩⟩
        · refine have h := iteF hc h; tK<|ATodo.blk<|tR<|rM J J<|ARun.qv (q_addw J J) J<|rA J J<|rN<|ATodo.stop<|?_
          obtain rfl := Option.some.inj h
          exact hJ1 _ _ J<|ImpX.lq [0] J J J
      · refine have h := iteF hc h; ATodo.exit J<|have h := outL h hA1; tSR<|rM J J<|rA J J<|rN<|ATodo.ret<|?_
        obtain rfl := Option.some.inj h
        exact ImpX.here ⟨_,.cons (.tmp _ _ J) .nil,_,.cons .p0 .nil,⟨b_0,J,J⟩⟩

theorem rule_Merge_c [GI : GTab] {p0x0 : List Sample} {p1x0 : List Sample} {r : (List Sample) × Int} (h : rule_Merge p0x0 p1x0 = some r) : ACall Tryz.prog 36 [lE3 p0x0,lE3 p1x0] [] (T1 (fun d_0=>[(d_0,aE3 r.1)]) (fun d_0=>.tup [.sl 4 d_0 0 r.1.length,I r.2])) := by
  unfold rule_Merge at h
  refine ACall.lessH ?_
  refine ACall.bodyN Tryz.func36 J Tryz.ntmps36 Tryz.results36 J J ?_
  refine tSR<|rA J J<|rA J J<|rN<|tS<|tSR<|rM J J<|bndE h fun v1 e1 h=>r_callp J (rule_CheckSamples_c e1) (CoL.refl _) J<|rM J J<|bndE h fun v2 e2 h=>r_callp J (rule_CheckSamples_c e2) (CoL.refl _) J<|n_buildSliceL (xs := ([v1,v2] : List Int).map I) J J J J J J<|bndE h fun v3 e3 h=>r_callp J (base_First_c e3) (CoL.refl _) J<|rA J J<|rN<|tSR<|rM J J<|ARun.qv (q_neq J J) J<|rN<|ATodo.cond_d J (fun hc=>?_) (fun hc=>?_)
  · refine have h := iteT hc h; tSR<|rM J J<|rA J J<|rA J J<|rN<|ATodo.ret<|?_
    obtain rfl := Option.some.inj h
    exact ImpX.arr (s := 4) 4 J fun b4=>ImpX.here ⟨_,.cons (.tmp _ _ J) (.cons (.tmp _ _ J) .nil),_,.cons .p0 .nil,⟨b4,J,J⟩⟩
  · refine have h := iteF hc h; tK<|tSR<|rM J J<|rM J J<|n_buildSliceL (xs := ([p0x0,p1x0] : List (List Sample)).map (encL 4 Sample.av)) J J J J J J<|bndE h fun v5 e4 h=>t_call1 J (slices_Concat_Sample_Sample_c e4) (CoL.refl _) .nil (fun _=>J) J fun b6=>rA J J<|rN<|tSR<|rM J J<|bndE h fun v7 e5 h=>t_call0 J (slices_SortFunc_Sample_Sample_c (fun e=>rule_byMoment_c (GI := strongT) e) (lenOk_f e5)) (CoL.refl _) (.cons .p0 .nil) J J<|ARun.ghost<|ImpX.eqs (s := 7) (av' := .sl 4 b6 0 v7.length) J (congrArg (AV.sl 4 b6 0) (lenOk_l e5))<|ImpX.here<|ARun.ghost<|ImpX.eqs (s := 21) (av' := .sl 4 b6 0 v7.length) J (congrArg (AV.sl 4 b6 0) (lenOk_l e5))<|ImpX.here<|ARun.ghost<|ImpX.eqs (s := 22) (av' := .sl 4 b6 0 v7.length) J (congrArg (AV.sl 4 b6 0) (lenOk_l e5))<|ImpX.here<|rN<|tSR<|rM J J<|bndE h fun v8 e6 h=>t_call1 J (slices_Compact_Sample_Sample_c e6) (CoL.refl _) (.cons .p0 .nil) (fun _=>J) J fun b9=>rA J J<|rN<|tS<|tSR<|rA J J<|rN<|ATodo.block<|ATodo.loopI (fun x : Int=>rule_Merge_b1 v8 x) (fun x σ'=>σ' = ⟨47,[(7,.sl 4 b9 0 v8.length),(8,I x)],[(b9,aE3 v8)]⟩) h ?_ ?_
    · exact ImpX.lq [0] J J J
    · intro n11 z1 σ' J1 hmk h hJ1 hA1
      obtain rfl := hmk
      replace h : rule_Merge_b1 v8 n11 = some z1 := h
      unfold rule_Merge_b1 at h
      refine tS<|tSR<|rM J J<|rM J J<|ARun.qv (t_len_sl J) J<|ARun.qv (q_lss J J) J<|rN<|ATodo.cond_d J (fun hc=>?_) (fun hc=>?_)
      · refine have h := iteT hc h; tK<|tS<|ATodo.block<|tS<|ATodo.regionM (id := 10) (A := [0,0,2,7,15,0,0,96,224,511,1023]) 11 mixed J (by kernel_rfl) (by kernel_rfl)<|AM.qv (q_move J) J<|AM.qv (q_move J) J<|AM.qv (q_subw J J) J<|bndE h fun v12 e7 h=>AM.qv (t_index_sl J J J e7) J<|AM.qv (t_load_aptr_agg (g := Sample.av) J J (.inl .p0) J e7 J) J<|AM.qv (q_move J) J<|AM.qv (q_move J) J<|bndE h fun v13 e8 h=>AM.qv (t_index_sl J J J e8) J<|AM.qv (t_load_aptr_agg (g := Sample.av) J J (.inl .p0) J e8 J) J<|bndE h fun v14 e9 h=>AM.callp J (rule_byMoment_c e9) (CoL.refl _) J<|AM.qv (q_eql J J) J<|AM.nil<|rN<|ATodo.cond_d J (fun hc=>?_) (fun hc=>?_)
        · refine have h := iteT hc h; tSR<|rA J J<|rA J J<|rN<|ATodo.ret<|have h := outL h hA1; ?_
          obtain rfl := Option.some.inj h
          exact ImpX.arr (s := 4) 4 J fun b15=>ImpX.here ⟨_,.cons (.tmp _ _ J) (.cons (.tmp _ _ J) .nil),_,.cons .p0 .nil,⟨b15,J,J⟩⟩
        · refine have h := iteF hc h; tK<|ATodo.blk<|tR<|rM J J<|ARun.qv (q_addw J J) J<|rA J J<|rN<|ATodo.stop<|?_
          obtain rfl := Option.some.inj h
          exact hJ1 _ _ J<|ImpX.lq [0] J J J
      · refine have h := iteF hc h; ATodo.exit J<|have h := outL h hA1; ?_
        unfold rule_Merge_k1 at h
        refine tS<|tSR<|rM J J<|ARun.qv (t_len_sl J) J<|ARun.qv (q_gtr J J) J<|rN<|ATodo.cond_d J (fun hc=>?_) (fun hc=>?_)
        · refine have h := iteT hc h; tSR<|rA J J<|rA J J<|rN<|ATodo.ret<|?_
          obtain rfl := Option.some.inj h
          exact ImpX.arr (s := 4) 4 J fun b16=>ImpX.here ⟨_,.cons (.tmp _ _ J) (.cons (.tmp _ _ J) .nil),_,.cons .p0 .nil,⟨b16,J,J⟩⟩
        · refine have h := iteF hc h; tK<|tSR<|rM J J<|rA J J<|rA J J<|rN<|ATodo.ret<|?_
          obtain rfl := Option.some.inj h
          exact ImpX.here ⟨_,.cons (.tmp _ _ J) (.cons (.tmp _ _ J) .nil),_,.cons .p0 .nil,⟨b9,J,J⟩⟩

theorem rule_CheckRules_1x_c [GI : GTab] {p0x0 : Int} {r : Bool} (h : rule_CheckRules_1x p0x0 = r) : Pu Tryz.prog 100 [I p0x0] (.bool r) := by
  unfold rule_CheckRules_1x at h
  refine ACall.bodyN Tryz.func100 J Tryz.ntmps100 Tryz.results100 J J ?_
  refine tSR<|rA J J<|rN<|tSR<|rM J J<|r_callp J (base_Out_c J) (CoL.refl _) J<|ARun.qv (q_not J) J<|rA J J<|rN<|ATodo.ret<|?_
  obtain rfl := h
  exact ImpX.here ⟨_,.cons (.tmp _ _ J) .nil,J⟩

theorem rule_CheckRules_c [GI : GTab] {p0x0 : List Rule} {r : Int} (h : rule_CheckRules p0x0 = some r) : Pu Tryz.prog 39 [lE2 p0x0] (I r) := by
  unfold rule_CheckRules at h
  refine ACall.bodyN Tryz.func39 J Tryz.ntmps39 Tryz.results39 J J ?_
  refine tSR<|rA J J<|rN<|tS<|tSR<|rM J J<|ARun.qv (t_len J) J<|ARun.qv (q_gtr J J) J<|rN<|ATodo.cond_d J (fun hc=>?_) (fun hc=>?_)
  · refine have h := iteT hc h; tSR<|rA J J<|rN<|ATodo.ret<|?_
    obtain rfl := Option.some.inj h
    exact ImpX.here ⟨_,.cons (.tmp _ _ J) .nil,J⟩
  · refine have h := iteF hc h; tK<|tSR<|rA J J<|rN<|tS<|tSR<|rM J J<|ARun.qv (t_len J) J<|rM J J<|rN<|ATodo.block<|ATodo.loopI (fun x : Int=>rule_CheckRules_b1 p0x0 x) (fun x σ'=>σ' = ⟨89,[(0,lE2 p0x0),(3,.func (.func 100) []),(9,lE2 p0x0),(10,I (p0x0.length : Int)),(11,I x)],[]⟩) h ?_ ?_
    · exact ImpX.lq [] J J J
    · intro n2 z1 σ' J1 hmk h hJ1 hA1
      obtain rfl := hmk
      replace h : rule_CheckRules_b1 p0x0 n2 = some z1 := h
      unfold rule_CheckRules_b1 at h
      refine tSR<|ARun.qv (q_lss J J) J<|rN<|tS<|ATodo.cond_d J (fun hc=>?_) (fun hc=>?_)
      · refine have h := iteT hc h; tK<|tS<|ATodo.block<|tSR<|rM J J<|bndE h fun v3 e1 h=>ARun.qv (t_index J J J e1 J J) J<|ARun.qv (q_load_rptr_agg J J J) J<|n_alloc J J J J fun b4=>rA J J<|n_store_ptr J J J J .p0 J J<|rN<|ATodo.block<|tSR<|rF J J J<|rL J J .p0 J J<|bndE h fun v5 e2 h=>r_callp J (base_Key_c e2) (CoL.refl _) J<|ARun.qv (q_not J) J<|rA J J<|rN<|ATodo.cond J (fun hc=>?_) (fun hc=>?_)
        · refine have h := iteT hc h; tSR<|rA J J<|rN<|ATodo.ret<|have h := outL h hA1; ?_
          obtain rfl := Option.some.inj h
          exact ImpX.here ⟨_,.cons (.tmp _ _ J) .nil,J⟩
        · refine have h := iteFb hc h; tS<|ATodo.cut (fun σ'=>∃ (c6 : Bool),rule_CheckRules_j1 n2 v3 c6 = some z1 ∧ σ' = ⟨89,[(0,lE2 p0x0),(3,.func (.func 100) []),(5,.ptr b4 0),(9,lE2 p0x0),(10,I (p0x0.length : Int)),(11,I n2),(21,.bool c6)],[(b4,.cells (cE1 v3))]⟩) ?_ ?_
          · refine ATodo.regionM (id := 9) (A := [0,1,3,7,15,7,7,71,231,487,999,2047,4095,8191]) 14 mixed J (by kernel_rfl) (by kernel_rfl)<|AM.qv (q_move J) J<|AM.qv (q_gtr J J) J<|AM.qv (q_move J) J<|AM.guard_dt J J J (fun hc=>?_) (fun hc=>?_)
            · exact have h := iteT hc h; AM.qv (n_field_ptr J J) J<|AM.guard_yes J J J<|AM.qv (q_load_ptr J J .p0 J) J<|AM.guard_yes J J J<|AM.qv (q_move J) J<|AM.guard_yes J J J<|AM.qv (q_move J) J<|AM.guard_yes J J J<|AM.qv (q_subw J J) J<|AM.guard_yes J J J<|bndE h fun v7 e3 h=>AM.qv (t_index J J J e3 J J) J<|AM.guard_yes J J J<|AM.qv (n_field_rptr J J) J<|AM.guard_yes J J J<|AM.qv (q_load_rptr J J J) J<|AM.guard_yes J J J<|AM.qv (t_sleq J J) J<|AM.qv (q_pick_t J J) J<|AM.qv (q_assign J) J<|AM.nil<|rN<|ATodo.stop<|ImpX.lq [0] ⟨Op.bytesLess v3.Key v7.Key || v3.Key == v7.Key,h,J⟩ J J
            · exact have h := iteF hc h; AM.guard_no J J J J<|AM.guard_no J J J J<|AM.guard_no J J J J<|AM.guard_no J J J J<|AM.guard_no J J J J<|AM.guard_no J J J J<|AM.guard_no J J J J<|AM.guard_no J J J J<|AM.qv (q_pick_f J J) J<|AM.qv (q_assign J) J<|AM.nil<|rN<|ATodo.stop<|ImpX.lq [0] ⟨false,h,J⟩ J J
          · rintro σ' ⟨c6, h, rfl⟩
            unfold rule_CheckRules_j1 at h
            refine ATodo.cond J (fun hc=>?_) (fun hc=>?_)
            · refine have h := iteT hc h; tSR<|rA J J<|rN<|ATodo.ret<|have h := outL h hA1; ?_
              obtain rfl := Option.some.inj h
              exact ImpX.here ⟨_,.cons (.tmp _ _ J) .nil,J⟩
            · refine have h := iteFb hc h; tSR<|rF J J J<|rL J J .p0 J J<|bndE h fun v8 e4 h=>r_callp J (base_Key_c e4) (CoL.refl _) J<|ARun.qv (q_not J) J<|rA J J<|rN<|ATodo.cond J (fun hc=>?_) (fun hc=>?_)
              · refine have h := iteT hc h; tSR<|rA J J<|rN<|ATodo.ret<|have h := outL h hA1; ?_
                obtain rfl := Option.some.inj h
                exact ImpX.here ⟨_,.cons (.tmp _ _ J) .nil,J⟩
              · refine have h := iteFb hc h; tSR<|rF J J J<|rL J J .p0 J J<|r_callp J (base_Out_c J) (CoL.refl _) J<|rA J J<|rN<|ATodo.cond J (fun hc=>?_) (fun hc=>?_)
                · refine have h := iteT hc h; tSR<|rA J J<|rN<|ATodo.ret<|have h := outL h hA1; ?_
                  obtain rfl := Option.some.inj h
                  exact ImpX.here ⟨_,.cons (.tmp _ _ J) .nil,J⟩
                · refine have h := iteFb hc h; tS<|tSR<|rF J J J<|rL J J .p0 J J<|r_callp J (base_Out_c J) (CoL.refl _) J<|rA J J<|rN<|ATodo.cut (fun σ'=>∃ (c9 : Bool),rule_CheckRules_j2 n2 v3 c9 = some z1 ∧ σ' = ⟨89,[(0,lE2 p0x0),(3,.func (.func 100) []),(5,.ptr b4 0),(9,lE2 p0x0),(10,I (p0x0.length : Int)),(11,I n2),(44,.bool c9)],[(b4,.cells (cE1 v3))]⟩) ?_ ?_
                  · refine ATodo.cond J (fun hc=>?_) (fun hc=>?_)
                    · exact have h := iteT hc h; tK<|ATodo.stop<|ImpX.lq [0] ⟨(base_Out v3.Long (1 : Int) (2592000000 : Int)),h,J⟩ J J
                    · refine have h := iteFb hc h; tSR<|rM J J<|rF J J J<|rL J J .p0 J J<|r_callvp J J (rule_CheckRules_1x_c J) (CoL.refl _) J<|ARun.qv (q_not J) J<|rA J J<|rN<|ATodo.cut (fun σ'=>∃ (c10 : Bool),rule_CheckRules_j3 n2 v3 c10 = some z1 ∧ σ' = ⟨89,[(0,lE2 p0x0),(3,.func (.func 100) []),(5,.ptr b4 0),(9,lE2 p0x0),(10,I (p0x0.length : Int)),(11,I n2),(44,.bool c10)],[(b4,.cells (cE1 v3))]⟩) ?_ ?_
                      · refine ATodo.cond J (fun hc=>?_) (fun hc=>?_)
                        · exact have h := iteT hc h; tK<|ATodo.stop<|ImpX.lq [0] ⟨!(rule_CheckRules_1x v3.On),h,J⟩ J J
                        · refine have h := iteFb hc h; tSR<|rM J J<|rF J J J<|rL J J .p0 J J<|r_callvp J J (rule_CheckRules_1x_c J) (CoL.refl _) J<|ARun.qv (q_not J) J<|rA J J<|rN<|ATodo.cut (fun σ'=>∃ (c11 : Bool),rule_CheckRules_j4 n2 v3 c11 = some z1 ∧ σ' = ⟨89,[(0,lE2 p0x0),(3,.func (.func 100) []),(5,.ptr b4 0),(9,lE2 p0x0),(10,I (p0x0.length : Int)),(11,I n2),(44,.bool c11)],[(b4,.cells (cE1 v3))]⟩) ?_ ?_
                          · refine ATodo.cond J (fun hc=>?_) (fun hc=>?_)
                            · exact have h := iteT hc h; tK<|ATodo.stop<|ImpX.lq [0] ⟨!(rule_CheckRules_1x v3.Off),h,J⟩ J J
                            · refine have h := iteFb hc h; tS<|ATodo.cut (fun σ'=>∃ (c12 : Bool),rule_CheckRules_j5 n2 v3 c12 = some z1 ∧ σ' = ⟨89,[(0,lE2 p0x0),(3,.func (.func 100) []),(5,.ptr b4 0),(9,lE2 p0x0),(10,I (p0x0.length : Int)),(11,I n2),(44,.bool c12)],[(b4,.cells (cE1 v3))]⟩) ?_ ?_
                              · refine tR<|rF J J J<|rL J J .p0 J J<|rM J J<|ARun.guard J J J (fun hc=>?_) (fun hc=>?_)
                                · rw [andTb hc] at h
                                  exact rF J J J<|rY J J J<|rL J J .p0 J J<|rY J J J<|rF J J J<|rY J J J<|rL J J .p0 J J<|rY J J J<|ARun.qv (q_gtr J J) J<|rT J J J<|rA J J<|rN<|ATodo.stop<|ImpX.lq [0] ⟨decide (v3.On < v3.Off),h,J⟩ J J
                                · rw [andFb hc] at h
                                  exact rG J J J J<|rG J J J J<|rG J J J J<|rG J J J J<|rE J J J<|rA J J<|rN<|ATodo.stop<|ImpX.lq [0] ⟨false,h,J⟩ J J
                              · rintro σ' ⟨c12, h, rfl⟩
                                unfold rule_CheckRules_j5 at h
                                refine ATodo.cut (fun σ'=>∃ (c13 : Bool),rule_CheckRules_j6 n2 v3 c13 = some z1 ∧ σ' = ⟨89,[(0,lE2 p0x0),(3,.func (.func 100) []),(5,.ptr b4 0),(9,lE2 p0x0),(10,I (p0x0.length : Int)),(11,I n2),(44,.bool c13)],[(b4,.cells (cE1 v3))]⟩) ?_ ?_
                                · refine ATodo.cond J (fun hc=>?_) (fun hc=>?_)
                                  · exact have h := iteT hc h; tK<|ATodo.stop<|ImpX.lq [0] ⟨c12,h,J⟩ J J
                                  · refine have h := iteFb hc h; ATodo.cut (fun σ'=>∃ (c14 : Bool),rule_CheckRules_j7 n2 v3 c14 = some z1 ∧ σ' = ⟨89,[(0,lE2 p0x0),(3,.func (.func 100) []),(5,.ptr b4 0),(9,lE2 p0x0),(10,I (p0x0.length : Int)),(11,I n2),(44,.bool c14)],[(b4,.cells (cE1 v3))]⟩) ?_ ?_
                                    · refine tR<|rF J J J<|rL J J .p0 J J<|ARun.qv (q_not J) J<|rM J J<|ARun.guard J J J (fun hc=>?_) (fun hc=>?_)
                                      · rw [andTb hc] at h
                                        exact rF J J J<|rY J J J<|rL J J .p0 J J<|rY J J J<|rF J J J<|rY J J J<|rL J J .p0 J J<|rY J J J<|ARun.qv (q_lss J J) J<|rT J J J<|rA J J<|rN<|ATodo.stop<|ImpX.lq [0] ⟨decide (v3.Off < v3.On),h,J⟩ J J
                                      · rw [andFb hc] at h
                                        exact rG J J J J<|rG J J J J<|rG J J J J<|rG J J J J<|rE J J J<|rA J J<|rN<|ATodo.stop<|ImpX.lq [0] ⟨false,h,J⟩ J J
                                    · rintro σ' ⟨c14, h, rfl⟩
                                      unfold rule_CheckRules_j7 at h
                                      exact ATodo.stop<|ImpX.lq [0] ⟨c14,h,J⟩ J J
                                · rintro σ' ⟨c13, h, rfl⟩
                                  unfold rule_CheckRules_j6 at h
                                  exact ATodo.stop<|ImpX.lq [0] ⟨c13,h,J⟩ J J
                          · rintro σ' ⟨c11, h, rfl⟩
                            unfold rule_CheckRules_j4 at h
                            exact ATodo.stop<|ImpX.lq [0] ⟨c11,h,J⟩ J J
                      · rintro σ' ⟨c10, h, rfl⟩
                        unfold rule_CheckRules_j3 at h
                        exact ATodo.stop<|ImpX.lq [0] ⟨c10,h,J⟩ J J
                  · rintro σ' ⟨c9, h, rfl⟩
                    unfold rule_CheckRules_j2 at h
                    refine ATodo.cond J (fun hc=>?_) (fun hc=>?_)
                    · refine have h := iteT hc h; tSR<|rA J J<|rN<|ATodo.ret<|have h := outL h hA1; ?_
                      obtain rfl := Option.some.inj h
                      exact ImpX.here ⟨_,.cons (.tmp _ _ J) .nil,J⟩
                    · refine have h := iteFb hc h; tS<|tSR<|rF J J J<|rL J J .p0 J J<|r_callp J (base_Out_c J) (CoL.refl _) J<|rA J J<|rN<|ATodo.cut (fun σ'=>∃ (c15 : Bool),rule_CheckRules_j8 n2 v3 c15 = some z1 ∧ σ' = ⟨89,[(0,lE2 p0x0),(3,.func (.func 100) []),(5,.ptr b4 0),(9,lE2 p0x0),(10,I (p0x0.length : Int)),(11,I n2),(77,.bool c15)],[(b4,.cells (cE1 v3))]⟩) ?_ ?_
                      · refine ATodo.cond J (fun hc=>?_) (fun hc=>?_)
                        · exact have h := iteT hc h; tK<|ATodo.stop<|ImpX.lq [0] ⟨(base_Out v3.Hold (0 : Int) (2592000000 : Int)),h,J⟩ J J
                        · exact have h := iteFb hc h; tR<|rF J J J<|rL J J .p0 J J<|r_callp J (base_Out_c J) (CoL.refl _) J<|rA J J<|rN<|ATodo.stop<|ImpX.lq [0] ⟨(base_Out v3.Rest (0 : Int) (2592000000 : Int)),h,J⟩ J J
                      · rintro σ' ⟨c15, h, rfl⟩
                        unfold rule_CheckRules_j8 at h
                        refine ATodo.cond J (fun hc=>?_) (fun hc=>?_)
                        · refine have h := iteT hc h; tSR<|rA J J<|rN<|ATodo.ret<|have h := outL h hA1; ?_
                          obtain rfl := Option.some.inj h
                          exact ImpX.here ⟨_,.cons (.tmp _ _ J) .nil,J⟩
                        · refine have h := iteFb hc h; tSR<|rF J J J<|rL J J .p0 J J<|r_callp J (base_Out_c J) (CoL.refl _) J<|rA J J<|rN<|ATodo.cond J (fun hc=>?_) (fun hc=>?_)
                          · refine have h := iteT hc h; tSR<|rA J J<|rN<|ATodo.ret<|have h := outL h hA1; ?_
                            obtain rfl := Option.some.inj h
                            exact ImpX.here ⟨_,.cons (.tmp _ _ J) .nil,J⟩
                          · refine have h := iteFb hc h; tK<|ATodo.blk<|ATodo.blk<|tR<|ARun.qv (q_addw J J) J<|rM J J<|rN<|ATodo.stop<|?_
                            obtain rfl := Option.some.inj h
                            exact hJ1 _ _ J<|ImpX.lq [] J J J
      · refine have h := iteF hc h; ATodo.exit J<|have h := outL h hA1; tSR<|rA J J<|rN<|ATodo.ret<|?_
        obtain rfl := Option.some.inj h
        exact ImpX.here ⟨_,.cons (.tmp _ _ J) .nil,J⟩

theorem rule_oneFault_c [GI : GTab] {p0x0 : Rule} {p1x0 : List Sample} {p2x0 : Str} {p3x0 : Int} {r : Int} (h : rule_oneFault p0x0 p1x0 p2x0 p3x0 = some r) : Pu Tryz.prog 68 [Rule.av p0x0,lE3 p1x0,.str p2x0,I p3x0] (I r) := by
  unfold rule_oneFault at h
  refine ACall.bodyN Tryz.func68 J Tryz.ntmps68 Tryz.results68 J J ?_
  refine tSR<|n_box J J J J fun b1=>rA J J<|rN<|tS<|tSR<|ARun.qv (q_load_ptr_all J J .p0 J) J<|n_buildSliceL (xs := ([p0x0] : List Rule).map Rule.av) J J J J J J<|bndE h fun v2 e1 h=>r_callp J (rule_CheckRules_c e1) (CoL.refl _) J<|rM J J<|bndE h fun v3 e2 h=>r_callp J (rule_CheckSamples_c e2) (CoL.refl _) J<|n_buildSliceL (xs := ([v2,v3] : List Int).map I) J J J J J J<|bndE h fun v4 e3 h=>r_callp J (base_First_c e3) (CoL.refl _) J<|rA J J<|rN<|tSR<|rM J J<|ARun.qv (q_neq J J) J<|rN<|ATodo.cond_d J (fun hc=>?_) (fun hc=>?_)
  · refine have h := iteT hc h; tSR<|rM J J<|rA J J<|rN<|ATodo.ret<|?_
    obtain rfl := Option.some.inj h
    exact ImpX.here ⟨_,.cons (.tmp _ _ J) .nil,J⟩
  · refine have h := iteF hc h; tK<|tS<|ATodo.block<|tSR<|rM J J<|bndE h fun v5 e4 h=>r_callp J (base_Key_c e4) (CoL.refl _) J<|ARun.qv (q_not J) J<|rA J J<|rN<|ATodo.cond J (fun hc=>?_) (fun hc=>?_)
    · refine have h := iteT hc h; tSR<|rA J J<|rN<|ATodo.ret<|?_
      obtain rfl := Option.some.inj h
      exact ImpX.here ⟨_,.cons (.tmp _ _ J) .nil,J⟩
    · refine have h := iteFb hc h; tSR<|rM J J<|r_callp J (base_Moment_c J) (CoL.refl _) J<|ARun.qv (q_not J) J<|rA J J<|rN<|ATodo.cond J (fun hc=>?_) (fun hc=>?_)
      · refine have h := iteT hc h; tSR<|rA J J<|rN<|ATodo.ret<|?_
        obtain rfl := Option.some.inj h
        exact ImpX.here ⟨_,.cons (.tmp _ _ J) .nil,J⟩
      · refine have h := iteFb hc h; tK<|ATodo.blk<|tSR<|rA J J<|rN<|ATodo.ret<|?_
        obtain rfl := Option.some.inj h
        exact ImpX.here ⟨_,.cons (.tmp _ _ J) .nil,J⟩

theorem rule_track_now_c [GI : GTab] {b_0 : Bk} {b_0x1 : Bk} {r_0x1 : List Rule_sample} {b_0x2 : Bk} {r_0x2 : List Rule_sample} {b_0x3 : Bk} {r_0x3 : List Rule_sample} {f_0x9F : Fn} {f_0x9C : List AV} {p0x0 : Rule_track} {r : Int} (h : rule_track_now p0x0 = some r) : ACall Tryz.prog 155 [.ptr b_0 0] [(b_0,.cells [.rptr [.str p0x0.rule_.Key,.str p0x0.rule_.Metric,I p0x0.rule_.Agg,I p0x0.rule_.Long,.bool p0x0.rule_.Above,I p0x0.rule_.On,I p0x0.rule_.Off,I p0x0.rule_.Hold,I p0x0.rule_.Rest,I p0x0.rule_.Empty],.sl 2 b_0x1 r_0x1.length p0x0.window_.length,.sl 2 b_0x2 r_0x2.length p0x0.least_.length,.sl 2 b_0x3 r_0x3.length p0x0.most_.length,I p0x0.sum_,I p0x0.state_,I p0x0.since_,.bool p0x0.firing_,I p0x0.began_,.func f_0x9F f_0x9C]),(b_0x1,aE5 (r_0x1 ++ p0x0.window_)),(b_0x2,aE5 (r_0x2 ++ p0x0.least_)),(b_0x3,aE5 (r_0x3 ++ p0x0.most_))] (T0 ([(b_0,.cells [.rptr [.str p0x0.rule_.Key,.str p0x0.rule_.Metric,I p0x0.rule_.Agg,I p0x0.rule_.Long,.bool p0x0.rule_.Above,I p0x0.rule_.On,I p0x0.rule_.Off,I p0x0.rule_.Hold,I p0x0.rule_.Rest,I p0x0.rule_.Empty],.sl 2 b_0x1 r_0x1.length p0x0.window_.length,.sl 2 b_0x2 r_0x2.length p0x0.least_.length,.sl 2 b_0x3 r_0x3.length p0x0.most_.length,I p0x0.sum_,I p0x0.state_,I p0x0.since_,.bool p0x0.firing_,I p0x0.began_,.func f_0x9F f_0x9C]),(b_0x1,aE5 (r_0x1 ++ p0x0.window_)),(b_0x2,aE5 (r_0x2 ++ p0x0.least_)),(b_0x3,aE5 (r_0x3 ++ p0x0.most_))]) (I r)) := by
  unfold rule_track_now at h
  refine ACall.lessH ?_
  refine ACall.bodyN Tryz.func155 J Tryz.ntmps155 Tryz.results155 J J ?_
  refine tSR<|rA J J<|rN<|tSR<|rM J J<|ARun.qv (q_nilCheck_ptr J) J<|rF J J J<|rL J J .p0 J J<|ARun.qv (q_len_sl J) J<|rA J J<|rN<|tS<|tS<|ATodo.cut (fun σ'=>∃ (c1 : Bool),rule_track_now_j1 p0x0 c1 = some r ∧ σ' = ⟨140,[(0,.ptr b_0 0),(3,I (p0x0.window_.length : Int)),(24,.bool c1)],[(b_0,.cells [.rptr [.str p0x0.rule_.Key,.str p0x0.rule_.Metric,I p0x0.rule_.Agg,I p0x0.rule_.Long,.bool p0x0.rule_.Above,I p0x0.rule_.On,I p0x0.rule_.Off,I p0x0.rule_.Hold,I p0x0.rule_.Rest,I p0x0.rule_.Empty],.sl 2 b_0x1 r_0x1.length p0x0.window_.length,.sl 2 b_0x2 r_0x2.length p0x0.least_.length,.sl 2 b_0x3 r_0x3.length p0x0.most_.length,I p0x0.sum_,I p0x0.state_,I p0x0.since_,.bool p0x0.firing_,I p0x0.began_,.func f_0x9F f_0x9C]),(b_0x1,aE5 (r_0x1 ++ p0x0.window_)),(b_0x2,aE5 (r_0x2 ++ p0x0.least_)),(b_0x3,aE5 (r_0x3 ++ p0x0.most_))]⟩) ?_ ?_
  · refine tR<|rM J J<|ARun.qv (q_eql J J) J<|rM J J<|ARun.guard_dt J J J (fun hc=>?_) (fun hc=>?_)
    · rw [andTd hc] at h
      exact rM J J<|rY J J J<|ARun.qv (q_nilCheck_ptr J) J<|rY J J J<|rF J J J<|rY J J J<|rL J J .p0 J J<|rY J J J<|ARun.qv (q_nilCheck_rptr J) J<|rY J J J<|ARun.qv (n_field_rptr J J) J<|rY J J J<|ARun.qv (q_load_rptr J J J) J<|rY J J J<|ARun.qv (q_neq J J) J<|rT J J J<|rN<|ATodo.stop<|ImpX.lq [0,0,0,0] ⟨decide (p0x0.rule_.Agg ≠ (5 : Int)),h,J⟩ J J
    · rw [andFd hc] at h
      exact rG J J J J<|rG J J J J<|rG J J J J<|rG J J J J<|rG J J J J<|rG J J J J<|rG J J J J<|rE J J J<|rN<|ATodo.stop<|ImpX.lq [0,0,0,0] ⟨false,h,J⟩ J J
  · rintro σ' ⟨c1, h, rfl⟩
    unfold rule_track_now_j1 at h
    refine ATodo.cond J (fun hc=>?_) (fun hc=>?_)
    · refine have h := iteT hc h; tSR<|n_buildSliceL (xs := ([(0 : Int),(2 : Int),(1 : Int)]).map I) J J J J J J<|rM J J<|ARun.qv (q_nilCheck_ptr J) J<|rF J J J<|rL J J .p0 J J<|ARun.qv (q_nilCheck_rptr J) J<|ARun.qv (n_field_rptr J J) J<|ARun.qv (q_load_rptr J J J) J<|bndE h fun v2 e1 h=>ARun.qv (t_index J J J e1 J J) J<|ARun.qv (q_load_rptr J J J) J<|rA J J<|rN<|ATodo.ret<|?_
      obtain rfl := Option.some.inj h
      exact ImpX.here ⟨_,.cons (.tmp _ _ J) .nil,_,.cons .p0 (.cons .p0 (.cons .p0 (.cons .p0 .nil))),⟨J,J⟩⟩
    · refine have h := iteFb hc h; tK<|tSR<|rA J J<|rA J J<|rN<|tS<|tSR<|rM J J<|ARun.qv (q_nilCheck_ptr J) J<|rF J J J<|rL J J .p0 J J<|ARun.qv (q_nilCheck_rptr J) J<|ARun.qv (n_field_rptr J J) J<|ARun.qv (q_load_rptr J J J) J<|rN<|ATodo.block<|tSR<|ARun.qv (q_eql J J) J<|rA J J<|rN<|ATodo.cut (fun σ'=>∃ (n3 : Int) (n4 : Int),rule_track_now_j2 p0x0 n3 n4 = some r ∧ σ' = ⟨140,[(0,.ptr b_0 0),(4,I n3),(5,I n4)],[(b_0,.cells [.rptr [.str p0x0.rule_.Key,.str p0x0.rule_.Metric,I p0x0.rule_.Agg,I p0x0.rule_.Long,.bool p0x0.rule_.Above,I p0x0.rule_.On,I p0x0.rule_.Off,I p0x0.rule_.Hold,I p0x0.rule_.Rest,I p0x0.rule_.Empty],.sl 2 b_0x1 r_0x1.length p0x0.window_.length,.sl 2 b_0x2 r_0x2.length p0x0.least_.length,.sl 2 b_0x3 r_0x3.length p0x0.most_.length,I p0x0.sum_,I p0x0.state_,I p0x0.since_,.bool p0x0.firing_,I p0x0.began_,.func f_0x9F f_0x9C]),(b_0x1,aE5 (r_0x1 ++ p0x0.window_)),(b_0x2,aE5 (r_0x2 ++ p0x0.least_)),(b_0x3,aE5 (r_0x3 ++ p0x0.most_))]⟩) ?_ ?_
      · refine ATodo.cond_d J (fun hc=>?_) (fun hc=>?_)
        · exact have h := iteT hc h; tR<|rM J J<|ARun.qv (q_nilCheck_ptr J) J<|rF J J J<|rL J J .p0 J J<|rM J J<|ARun.qv (q_subw J J) J<|bndE h fun v5 e2 h=>ARun.qv (t_index_dq (Ps := r_0x1) (Xs := p0x0.window_) J J J e2) J<|ARun.qv (t_field_aptr J J) J<|ARun.qv (t_load_dq (g := Rule_sample.av) (Ps := r_0x1) (Xs := p0x0.window_) J J .p1 e2 J) J<|rA J J<|rN<|ATodo.stop<|ImpX.lq [0,0,0,0] ⟨v5.value_,(1 : Int),h,J⟩ J J
        · refine have h := iteF hc h; tSR<|ARun.qv (q_eql J J) J<|rA J J<|rN<|ATodo.cut (fun σ'=>∃ (n6 : Int) (n7 : Int),rule_track_now_j3 p0x0 n6 n7 = some r ∧ σ' = ⟨140,[(0,.ptr b_0 0),(4,I n6),(5,I n7)],[(b_0,.cells [.rptr [.str p0x0.rule_.Key,.str p0x0.rule_.Metric,I p0x0.rule_.Agg,I p0x0.rule_.Long,.bool p0x0.rule_.Above,I p0x0.rule_.On,I p0x0.rule_.Off,I p0x0.rule_.Hold,I p0x0.rule_.Rest,I p0x0.rule_.Empty],.sl 2 b_0x1 r_0x1.length p0x0.window_.length,.sl 2 b_0x2 r_0x2.length p0x0.least_.length,.sl 2 b_0x3 r_0x3.length p0x0.most_.length,I p0x0.sum_,I p0x0.state_,I p0x0.since_,.bool p0x0.firing_,I p0x0.began_,.func f_0x9F f_0x9C]),(b_0x1,aE5 (r_0x1 ++ p0x0.window_)),(b_0x2,aE5 (r_0x2 ++ p0x0.least_)),(b_0x3,aE5 (r_0x3 ++ p0x0.most_))]⟩) ?_ ?_
          · refine ATodo.cond_d J (fun hc=>?_) (fun hc=>?_)
            · exact have h := iteT hc h; tR<|rM J J<|ARun.qv (q_nilCheck_ptr J) J<|rF J J J<|rL J J .p0 J J<|bndE h fun v8 e3 h=>ARun.qv (t_index_dq (Ps := r_0x2) (Xs := p0x0.least_) J J J e3) J<|ARun.qv (t_field_aptr J J) J<|ARun.qv (t_load_dq (g := Rule_sample.av) (Ps := r_0x2) (Xs := p0x0.least_) J J .p2 e3 J) J<|rA J J<|rN<|ATodo.stop<|ImpX.lq [0,0,0,0] ⟨v8.value_,(1 : Int),h,J⟩ J J
            · refine have h := iteF hc h; tSR<|ARun.qv (q_eql J J) J<|rA J J<|rN<|ATodo.cut (fun σ'=>∃ (n9 : Int) (n10 : Int),rule_track_now_j4 p0x0 n9 n10 = some r ∧ σ' = ⟨140,[(0,.ptr b_0 0),(4,I n9),(5,I n10)],[(b_0,.cells [.rptr [.str p0x0.rule_.Key,.str p0x0.rule_.Metric,I p0x0.rule_.Agg,I p0x0.rule_.Long,.bool p0x0.rule_.Above,I p0x0.rule_.On,I p0x0.rule_.Off,I p0x0.rule_.Hold,I p0x0.rule_.Rest,I p0x0.rule_.Empty],.sl 2 b_0x1 r_0x1.length p0x0.window_.length,.sl 2 b_0x2 r_0x2.length p0x0.least_.length,.sl 2 b_0x3 r_0x3.length p0x0.most_.length,I p0x0.sum_,I p0x0.state_,I p0x0.since_,.bool p0x0.firing_,I p0x0.began_,.func f_0x9F f_0x9C]),(b_0x1,aE5 (r_0x1 ++ p0x0.window_)),(b_0x2,aE5 (r_0x2 ++ p0x0.least_)),(b_0x3,aE5 (r_0x3 ++ p0x0.most_))]⟩) ?_ ?_
              · refine ATodo.cond_d J (fun hc=>?_) (fun hc=>?_)
                · exact have h := iteT hc h; tR<|rM J J<|ARun.qv (q_nilCheck_ptr J) J<|rF J J J<|rL J J .p0 J J<|bndE h fun v11 e4 h=>ARun.qv (t_index_dq (Ps := r_0x3) (Xs := p0x0.most_) J J J e4) J<|ARun.qv (t_field_aptr J J) J<|ARun.qv (t_load_dq (g := Rule_sample.av) (Ps := r_0x3) (Xs := p0x0.most_) J J .p3 e4 J) J<|rA J J<|rN<|ATodo.stop<|ImpX.lq [0,0,0,0] ⟨v11.value_,(1 : Int),h,J⟩ J J
                · refine have h := iteF hc h; tSR<|ARun.qv (q_eql J J) J<|rA J J<|rN<|ATodo.cut (fun σ'=>∃ (n12 : Int) (n13 : Int),rule_track_now_j5 p0x0 n12 n13 = some r ∧ σ' = ⟨140,[(0,.ptr b_0 0),(4,I n12),(5,I n13)],[(b_0,.cells [.rptr [.str p0x0.rule_.Key,.str p0x0.rule_.Metric,I p0x0.rule_.Agg,I p0x0.rule_.Long,.bool p0x0.rule_.Above,I p0x0.rule_.On,I p0x0.rule_.Off,I p0x0.rule_.Hold,I p0x0.rule_.Rest,I p0x0.rule_.Empty],.sl 2 b_0x1 r_0x1.length p0x0.window_.length,.sl 2 b_0x2 r_0x2.length p0x0.least_.length,.sl 2 b_0x3 r_0x3.length p0x0.most_.length,I p0x0.sum_,I p0x0.state_,I p0x0.since_,.bool p0x0.firing_,I p0x0.began_,.func f_0x9F f_0x9C]),(b_0x1,aE5 (r_0x1 ++ p0x0.window_)),(b_0x2,aE5 (r_0x2 ++ p0x0.least_)),(b_0x3,aE5 (r_0x3 ++ p0x0.most_))]⟩) ?_ ?_
                  · refine ATodo.cond_d J (fun hc=>?_) (fun hc=>?_)
                    · exact have h := iteT hc h; tR<|rM J J<|ARun.qv (q_nilCheck_ptr J) J<|rF J J J<|rL J J .p0 J J<|rM J J<|rA J J<|rA J J<|rN<|ATodo.stop<|ImpX.lq [0,0,0,0] ⟨p0x0.sum_,(p0x0.window_.length : Int),h,J⟩ J J
                    · refine have h := iteF hc h; tSR<|ARun.qv (q_eql J J) J<|rA J J<|rN<|ATodo.cut (fun σ'=>∃ (n14 : Int),rule_track_now_j6 p0x0 n14 = some r ∧ σ' = ⟨140,[(0,.ptr b_0 0),(4,I n14),(5,I (1 : Int))],[(b_0,.cells [.rptr [.str p0x0.rule_.Key,.str p0x0.rule_.Metric,I p0x0.rule_.Agg,I p0x0.rule_.Long,.bool p0x0.rule_.Above,I p0x0.rule_.On,I p0x0.rule_.Off,I p0x0.rule_.Hold,I p0x0.rule_.Rest,I p0x0.rule_.Empty],.sl 2 b_0x1 r_0x1.length p0x0.window_.length,.sl 2 b_0x2 r_0x2.length p0x0.least_.length,.sl 2 b_0x3 r_0x3.length p0x0.most_.length,I p0x0.sum_,I p0x0.state_,I p0x0.since_,.bool p0x0.firing_,I p0x0.began_,.func f_0x9F f_0x9C]),(b_0x1,aE5 (r_0x1 ++ p0x0.window_)),(b_0x2,aE5 (r_0x2 ++ p0x0.least_)),(b_0x3,aE5 (r_0x3 ++ p0x0.most_))]⟩) ?_ ?_
                      · refine ATodo.cond_d J (fun hc=>?_) (fun hc=>?_)
                        · exact have h := iteT hc h; tR<|rM J J<|rA J J<|rN<|ATodo.stop<|ImpX.lq [0,0,0,0] ⟨(p0x0.window_.length : Int),h,J⟩ J J
                        · refine have h := iteF hc h; tSR<|ARun.qv (q_eql J J) J<|rA J J<|rN<|ATodo.cut (fun σ'=>∃ (n15 : Int),rule_track_now_j7 p0x0 n15 = some r ∧ σ' = ⟨140,[(0,.ptr b_0 0),(4,I n15),(5,I (1 : Int))],[(b_0,.cells [.rptr [.str p0x0.rule_.Key,.str p0x0.rule_.Metric,I p0x0.rule_.Agg,I p0x0.rule_.Long,.bool p0x0.rule_.Above,I p0x0.rule_.On,I p0x0.rule_.Off,I p0x0.rule_.Hold,I p0x0.rule_.Rest,I p0x0.rule_.Empty],.sl 2 b_0x1 r_0x1.length p0x0.window_.length,.sl 2 b_0x2 r_0x2.length p0x0.least_.length,.sl 2 b_0x3 r_0x3.length p0x0.most_.length,I p0x0.sum_,I p0x0.state_,I p0x0.since_,.bool p0x0.firing_,I p0x0.began_,.func f_0x9F f_0x9C]),(b_0x1,aE5 (r_0x1 ++ p0x0.window_)),(b_0x2,aE5 (r_0x2 ++ p0x0.least_)),(b_0x3,aE5 (r_0x3 ++ p0x0.most_))]⟩) ?_ ?_
                          · refine ATodo.cond_d J (fun hc=>?_) (fun hc=>?_)
                            · exact have h := iteT hc h; ATodo.regionM (id := 17) (A := [0,1,3,7,0,16,63,127,255,0,512,1536,3584,7680,15872,32256,65535,131071]) 18 mixed J (by kernel_rfl) (by kernel_rfl)<|AM.qv (q_move J) J<|AM.qv (q_nilCheck_ptr J) J<|AM.qv (n_field_ptr J J) J<|AM.qv (q_load_ptr J J .p0 J) J<|AM.qv (q_move J) J<|AM.qv (q_subw J J) J<|bndE h fun v16 e5 h=>AM.qv (t_index_dq (Ps := r_0x1) (Xs := p0x0.window_) J J J e5) J<|AM.qv (t_field_aptr J J) J<|AM.qv (t_load_dq (g := Rule_sample.av) (Ps := r_0x1) (Xs := p0x0.window_) J J .p1 e5 J) J<|AM.qv (q_move J) J<|AM.qv (q_nilCheck_ptr J) J<|AM.qv (n_field_ptr J J) J<|AM.qv (q_load_ptr J J .p0 J) J<|bndE h fun v17 e6 h=>AM.qv (t_index_dq (Ps := r_0x1) (Xs := p0x0.window_) J J J e6) J<|AM.qv (t_field_aptr J J) J<|AM.qv (t_load_dq (g := Rule_sample.av) (Ps := r_0x1) (Xs := p0x0.window_) J J .p1 e6 J) J<|AM.qv (q_subw J J) J<|AM.qv (q_assign J) J<|AM.nil<|rN<|ATodo.stop<|ImpX.lq [0,0,0,0] ⟨w64 (v16.value_ - v17.value_),h,J⟩ J J
                            · exact have h := iteF hc h; tK<|ATodo.stop<|ImpX.lq [0,0,0,0] ⟨(0 : Int),h,J⟩ J J
                          · rintro σ' ⟨n15, h, rfl⟩
                            unfold rule_track_now_j7 at h
                            exact ATodo.stop<|ImpX.lq [0,0,0,0] ⟨n15,h,J⟩ J J
                      · rintro σ' ⟨n14, h, rfl⟩
                        unfold rule_track_now_j6 at h
                        exact ATodo.stop<|ImpX.lq [0,0,0,0] ⟨n14,(1 : Int),h,J⟩ J J
                  · rintro σ' ⟨n12, n13, h, rfl⟩
                    unfold rule_track_now_j5 at h
                    exact ATodo.stop<|ImpX.lq [0,0,0,0] ⟨n12,n13,h,J⟩ J J
              · rintro σ' ⟨n9, n10, h, rfl⟩
                unfold rule_track_now_j4 at h
                exact ATodo.stop<|ImpX.lq [0,0,0,0] ⟨n9,n10,h,J⟩ J J
          · rintro σ' ⟨n6, n7, h, rfl⟩
            unfold rule_track_now_j3 at h
            exact ATodo.stop<|ImpX.lq [0,0,0,0] ⟨n6,n7,h,J⟩ J J
      · rintro σ' ⟨n3, n4, h, rfl⟩
        unfold rule_track_now_j2 at h
        refine ATodo.blk<|tS<|ATodo.regionM (id := 18) (A := [0,1,3,7,15,31,63,0,255,0,512,1536,3584,7680,15872,32256,0,130560,511,524287]) 20 mixed J (by kernel_rfl) (by kernel_rfl)<|AM.qv (q_move J) J<|AM.qv (q_nilCheck_ptr J) J<|AM.qv (n_field_ptr J J) J<|AM.qv (q_load_ptr J J .p0 J) J<|AM.qv (q_nilCheck_rptr J) J<|AM.qv (n_field_rptr J J) J<|AM.qv (q_load_rptr J J J) J<|AM.qv (q_move J) J<|AM.qv (q_mulw J J) J<|AM.qv (q_move J) J<|AM.qv (q_nilCheck_ptr J) J<|AM.qv (n_field_ptr J J) J<|AM.qv (q_load_ptr J J .p0 J) J<|AM.qv (q_nilCheck_rptr J) J<|AM.qv (n_field_rptr J J) J<|AM.qv (q_load_rptr J J J) J<|AM.qv (q_move J) J<|AM.qv (q_mulw J J) J<|AM.qv (q_assign J) J<|AM.qv (q_assign J) J<|AM.nil<|rN<|tS<|tSR<|rM J J<|ARun.qv (q_nilCheck_ptr J) J<|rF J J J<|rL J J .p0 J J<|ARun.qv (q_nilCheck_rptr J) J<|ARun.qv (n_field_rptr J J) J<|ARun.qv (q_load_rptr J J J) J<|ARun.qv (q_not J) J<|rN<|ATodo.cut (fun σ'=>∃ (n18 : Int) (n19 : Int) (n20 : Int),rule_track_now_j8 n18 n19 n20 = some r ∧ σ' = ⟨140,[(4,I n18),(6,I n19),(7,I n20)],[(b_0,.cells [.rptr [.str p0x0.rule_.Key,.str p0x0.rule_.Metric,I p0x0.rule_.Agg,I p0x0.rule_.Long,.bool p0x0.rule_.Above,I p0x0.rule_.On,I p0x0.rule_.Off,I p0x0.rule_.Hold,I p0x0.rule_.Rest,I p0x0.rule_.Empty],.sl 2 b_0x1 r_0x1.length p0x0.window_.length,.sl 2 b_0x2 r_0x2.length p0x0.least_.length,.sl 2 b_0x3 r_0x3.length p0x0.most_.length,I p0x0.sum_,I p0x0.state_,I p0x0.since_,.bool p0x0.firing_,I p0x0.began_,.func f_0x9F f_0x9C]),(b_0x1,aE5 (r_0x1 ++ p0x0.window_)),(b_0x2,aE5 (r_0x2 ++ p0x0.least_)),(b_0x3,aE5 (r_0x3 ++ p0x0.most_))]⟩) ?_ ?_
        · refine ATodo.cond J (fun hc=>?_) (fun hc=>?_)
          · exact have h := iteT hc h; tR<|rM J J<|ARun.qv (t_negw J) J<|rM J J<|ARun.qv (t_negw J) J<|rM J J<|ARun.qv (t_negw J) J<|rA J J<|rA J J<|rA J J<|rN<|ATodo.stop<|ImpX.lq [0,0,0,0] ⟨w64 (-n3),w64 (-(w64 (p0x0.rule_.On * n4))),w64 (-(w64 (p0x0.rule_.Off * n4))),h,J⟩ J J
          · exact have h := iteFb hc h; tK<|ATodo.stop<|ImpX.lq [0,0,0,0] ⟨n3,w64 (p0x0.rule_.On * n4),w64 (p0x0.rule_.Off * n4),h,J⟩ J J
        · rintro σ' ⟨n18, n19, n20, h, rfl⟩
          unfold rule_track_now_j8 at h
          refine tS<|ATodo.block<|tSR<|rM J J<|rM J J<|ARun.qv (q_geq J J) J<|rA J J<|rN<|ATodo.cond_d J (fun hc=>?_) (fun hc=>?_)
          · refine have h := iteT hc h; tSR<|rA J J<|rN<|ATodo.ret<|?_
            obtain rfl := Option.some.inj h
            exact ImpX.here ⟨_,.cons (.tmp _ _ J) .nil,_,.cons .p0 (.cons .p0 (.cons .p0 (.cons .p0 .nil))),⟨J,J⟩⟩
          · refine have h := iteF hc h; tSR<|rM J J<|rM J J<|ARun.qv (q_lss J J) J<|rA J J<|rN<|ATodo.cond_d J (fun hc=>?_) (fun hc=>?_)
            · refine have h := iteT hc h; tSR<|rA J J<|rN<|ATodo.ret<|?_
              obtain rfl := Option.some.inj h
              exact ImpX.here ⟨_,.cons (.tmp _ _ J) .nil,_,.cons .p0 (.cons .p0 (.cons .p0 (.cons .p0 .nil))),⟨J,J⟩⟩
            · refine have h := iteF hc h; tK<|ATodo.blk<|tSR<|rA J J<|rN<|ATodo.ret<|?_
              obtain rfl := Option.some.inj h
              exact ImpX.here ⟨_,.cons (.tmp _ _ J) .nil,_,.cons .p0 (.cons .p0 (.cons .p0 (.cons .p0 .nil))),⟨J,J⟩⟩

theorem rule_newTrack_c [GI : GTab] {f_1F : Fn} {f_1C : List AV} {p0x0 : Rule} {r : Rule_track} (h : rule_newTrack p0x0 = some r) : ACall Tryz.prog 120 [.rptr [.str p0x0.Key,.str p0x0.Metric,I p0x0.Agg,I p0x0.Long,.bool p0x0.Above,I p0x0.On,I p0x0.Off,I p0x0.Hold,I p0x0.Rest,I p0x0.Empty],.func f_1F f_1C] [] (T7 (fun d_0 d_0x1 t_0x1 d_0x2 t_0x2 d_0x3 t_0x3=>[(d_0,.cells [.rptr [.str p0x0.Key,.str p0x0.Metric,I p0x0.Agg,I p0x0.Long,.bool p0x0.Above,I p0x0.On,I p0x0.Off,I p0x0.Hold,I p0x0.Rest,I p0x0.Empty],.sl 2 d_0x1 t_0x1.length r.window_.length,.sl 2 d_0x2 t_0x2.length r.least_.length,.sl 2 d_0x3 t_0x3.length r.most_.length,I r.sum_,I r.state_,I r.since_,.bool r.firing_,I r.began_,.func f_1F f_1C]),(d_0x1,aE5 (t_0x1 ++ r.window_)),(d_0x2,aE5 (t_0x2 ++ r.least_)),(d_0x3,aE5 (t_0x3 ++ r.most_))]) (fun d_0 d_0x1 t_0x1 d_0x2 t_0x2 d_0x3 t_0x3=>.ptr d_0 0)) := by
  unfold rule_newTrack at h
  refine ACall.lessH ?_
  refine ACall.bodyN Tryz.func120 J Tryz.ntmps120 Tryz.results120 J J ?_
  refine tSR<|rA J J<|rN<|tSR<|rM J J<|rM J J<|ARun.qv (n_build J J J J J) J<|n_box J J J J fun b1=>rA J J<|rN<|tSR<|rM J J<|rM J J<|bndE h fun v2 e1 h=>ARun.ghost<|ImpX.arrBox (j := 1) 2 (fun _=>.p0) J (fun _=>J) (fun _=>J) fun b3=>ImpX.here<|ARun.ghost<|ImpX.obEq (b := b3) (o := aE5 []) (o' := aE5 (([] : List Rule_sample) ++ ([] : List Rule_sample))) J .p0<|ImpX.here<|ARun.ghost<|ImpX.eqBox (b := b1) (j := 1) (av := .sl 2 b3 0 [].length) (av' := .sl 2 b3 ([] : List Rule_sample).length ([] : List Rule_sample).length) .p1 J J J<|ImpX.here<|ARun.ghost<|ImpX.arrBox (j := 2) 2 (fun _=>.p1) J (fun _=>J) (fun _=>J) fun b4=>ImpX.here<|ARun.ghost<|ImpX.obEq (b := b4) (o := aE5 []) (o' := aE5 (([] : List Rule_sample) ++ ([] : List Rule_sample))) J .p0<|ImpX.here<|ARun.ghost<|ImpX.eqBox (b := b1) (j := 2) (av := .sl 2 b4 0 [].length) (av' := .sl 2 b4 ([] : List Rule_sample).length ([] : List Rule_sample).length) .p2 J J J<|ImpX.here<|ARun.ghost<|ImpX.arrBox (j := 3) 2 (fun _=>.p2) J (fun _=>J) (fun _=>J) fun b5=>ImpX.here<|ARun.ghost<|ImpX.obEq (b := b5) (o := aE5 []) (o' := aE5 (([] : List Rule_sample) ++ ([] : List Rule_sample))) J .p0<|ImpX.here<|ARun.ghost<|ImpX.eqBox (b := b1) (j := 3) (av := .sl 2 b5 0 [].length) (av' := .sl 2 b5 ([] : List Rule_sample).length ([] : List Rule_sample).length) .p3 J J J<|ImpX.here<|t_call0 J (rule_track_now_c e1) (CoL.refl _) (.cons .p3 (.cons .p2 (.cons .p1 (.cons .p0 .nil)))) J J<|ARun.qv (q_nilCheck_ptr J) J<|rF J J J<|n_store_ptr J J J J .p0 J J<|rN<|tSR<|rM J J<|rA J J<|rN<|ATodo.ret<|?_
  obtain rfl := Option.some.inj h
  exact ImpX.here ⟨_,.cons (.tmp _ _ J) .nil,_,.cons .p0 (.cons .p0 (.cons .p0 (.cons .p0 .nil))),⟨b1,b3,([] : List Rule_sample),b4,([] : List Rule_sample),b5,([] : List Rule_sample),J,J⟩⟩

theorem rule_seen_c [GI : GTab] {p0x0 : List Sample} {p1x0 : Str} {p2x0 : Str} {r : (List Rule_sample)} (h : rule_seen p0x0 p1x0 p2x0 = some r) : ACall Tryz.prog 71 [lE3 p0x0,.str p1x0,.str p2x0] [] (T1 (fun d_0=>[(d_0,aE5 r)]) (fun d_0=>.sl 2 d_0 0 r.length)) := by
  unfold rule_seen at h
  refine ACall.lessH ?_
  refine ACall.bodyN Tryz.func71 J Tryz.ntmps71 Tryz.results71 J J ?_
  refine tSR<|rA J J<|rN<|tSR<|rA J J<|rN<|tS<|tSR<|rM J J<|ARun.qv (t_len J) J<|rM J J<|rN<|ATodo.block<|ATodo.loopI (fun x : (List Rule_sample) × Int=>rule_seen_b1 p0x0 p1x0 p2x0 x.1 x.2) (fun x σ'=>∃ (b4 : Bk),σ' = ⟨36,[(1,.str p1x0),(2,.str p2x0),(7,.sl 2 b4 0 x.1.length),(10,lE3 p0x0),(11,I (p0x0.length : Int)),(12,I x.2)],[(b4,aE5 x.1)]⟩) h ?_ ?_
  · exact ImpX.arr (s := 7) 2 J fun b7=>ImpX.lq [0] ⟨b7,J⟩ J J
  · intro x z1 σ' J1 hmk h hJ1 hA1
    obtain ⟨l5, n6⟩ := x
    obtain ⟨b4, rfl⟩ := hmk
    replace h : rule_seen_b1 p0x0 p1x0 p2x0 l5 n6 = some z1 := h
    unfold rule_seen_b1 at h
    refine tSR<|ARun.qv (q_lss J J) J<|rN<|tS<|ATodo.cond_d J (fun hc=>?_) (fun hc=>?_)
    · refine have h := iteT hc h; tK<|tS<|ATodo.block<|tSR<|bndE h fun v8 e1 h=>ARun.qv (t_index J J J e1 J J) J<|ARun.qv (q_load_rptr_agg J J J) J<|n_alloc J J J J fun b9=>n_store_ptr J J J J .p0 J J<|rN<|tS<|ATodo.cut (fun σ'=>∃ (c10 : Bool),rule_seen_j1 l5 n6 v8 c10 = some z1 ∧ σ' = ⟨36,[(1,.str p1x0),(2,.str p2x0),(7,.sl 2 b4 0 l5.length),(9,.ptr b9 0),(10,lE3 p0x0),(11,I (p0x0.length : Int)),(12,I n6),(25,.bool c10)],[(b4,aE5 l5),(b9,.cells (cE0 v8))]⟩) ?_ ?_
      · refine tR<|rF J J J<|rL J J .p0 J J<|rM J J<|ARun.qv (q_seq J J) J<|rM J J<|ARun.guard_dt J J J (fun hc=>?_) (fun hc=>?_)
        · rw [andTd hc] at h
          exact rF J J J<|rY J J J<|rL J J .p0 J J<|rY J J J<|rM J J<|rY J J J<|ARun.qv (q_seq J J) J<|rT J J J<|rN<|ATodo.stop<|ImpX.lq [1,0] ⟨decide (v8.Device = p2x0),h,J⟩ J J
        · rw [andFd hc] at h
          exact rG J J J J<|rG J J J J<|rG J J J J<|rE J J J<|rN<|ATodo.stop<|ImpX.lq [1,0] ⟨false,h,J⟩ J J
      · rintro σ' ⟨c10, h, rfl⟩
        unfold rule_seen_j1 at h
        refine ATodo.cut (fun σ'=>∃ (b11 : Bk) (l12 : List Rule_sample),rule_seen_j2 n6 l12 = some z1 ∧ σ' = ⟨36,[(1,.str p1x0),(2,.str p2x0),(7,.sl 2 b11 0 l12.length),(10,lE3 p0x0),(11,I (p0x0.length : Int)),(12,I n6)],[(b11,aE5 l12)]⟩) ?_ ?_
        · refine ATodo.cond J (fun hc=>?_) (fun hc=>?_)
          · exact have h := iteT hc h; tR<|rM J J<|rF J J J<|rL J J .p1 J J<|rF J J J<|rL J J .p1 J J<|ARun.qv (n_build J J J J J) J<|n_buildSliceL (xs := ([(⟨v8.At,v8.Value⟩ : Rule_sample)]).map Rule_sample.av) J J J J J J<|bndE h fun l13 e2 h=>t_append (g := Rule_sample.av) J J J J J J J J (.list _) e2 (fun _=>.p0) J fun b14=>rA J J<|rN<|ATodo.stop<|ImpX.lq [0] ⟨b14,l13,h,J⟩ J J
          · exact have h := iteFb hc h; tK<|ATodo.stop<|ImpX.lq [0] ⟨b4,l5,h,J⟩ J J
        · rintro σ' ⟨b11, l12, h, rfl⟩
          unfold rule_seen_j2 at h
          refine ATodo.blk<|tR<|ARun.qv (q_addw J J) J<|rM J J<|rN<|ATodo.stop<|?_
          obtain rfl := Option.some.inj h
          exact hJ1 _ _ J<|ImpX.lq [0] ⟨b11,J⟩ J J
    · refine have h := iteF hc h; ATodo.exit J<|have h := outL h hA1; tSR<|rM J J<|rA J J<|rN<|ATodo.ret<|?_
      obtain rfl := Option.some.inj h
      exact ImpX.here ⟨_,.cons (.tmp _ _ J) .nil,_,.cons .p0 .nil,⟨b4,J,J⟩⟩

theorem rule_track_turn_c [GI : GTab] {b_0 : Bk} {b_0x1 : Bk} {r_0x1 : List Rule_sample} {b_0x2 : Bk} {r_0x2 : List Rule_sample} {b_0x3 : Bk} {r_0x3 : List Rule_sample} {f_0x9F : Fn} {f_0x9C : List AV} {p0x0 : Rule_track} {r : Int} (h : rule_track_turn p0x0 = r) : ACall Tryz.prog 163 [.ptr b_0 0] [(b_0,.cells [.rptr [.str p0x0.rule_.Key,.str p0x0.rule_.Metric,I p0x0.rule_.Agg,I p0x0.rule_.Long,.bool p0x0.rule_.Above,I p0x0.rule_.On,I p0x0.rule_.Off,I p0x0.rule_.Hold,I p0x0.rule_.Rest,I p0x0.rule_.Empty],.sl 2 b_0x1 r_0x1.length p0x0.window_.length,.sl 2 b_0x2 r_0x2.length p0x0.least_.length,.sl 2 b_0x3 r_0x3.length p0x0.most_.length,I p0x0.sum_,I p0x0.state_,I p0x0.since_,.bool p0x0.firing_,I p0x0.began_,.func f_0x9F f_0x9C]),(b_0x1,aE5 (r_0x1 ++ p0x0.window_)),(b_0x2,aE5 (r_0x2 ++ p0x0.least_)),(b_0x3,aE5 (r_0x3 ++ p0x0.most_))] (T0 ([(b_0,.cells [.rptr [.str p0x0.rule_.Key,.str p0x0.rule_.Metric,I p0x0.rule_.Agg,I p0x0.rule_.Long,.bool p0x0.rule_.Above,I p0x0.rule_.On,I p0x0.rule_.Off,I p0x0.rule_.Hold,I p0x0.rule_.Rest,I p0x0.rule_.Empty],.sl 2 b_0x1 r_0x1.length p0x0.window_.length,.sl 2 b_0x2 r_0x2.length p0x0.least_.length,.sl 2 b_0x3 r_0x3.length p0x0.most_.length,I p0x0.sum_,I p0x0.state_,I p0x0.since_,.bool p0x0.firing_,I p0x0.began_,.func f_0x9F f_0x9C]),(b_0x1,aE5 (r_0x1 ++ p0x0.window_)),(b_0x2,aE5 (r_0x2 ++ p0x0.least_)),(b_0x3,aE5 (r_0x3 ++ p0x0.most_))]) (I r)) := by
  unfold rule_track_turn at h
  refine ACall.lessH ?_
  refine ACall.bodyN Tryz.func163 J Tryz.ntmps163 Tryz.results163 J J ?_
  refine tSR<|rA J J<|rN<|tS<|ATodo.block<|tS<|ATodo.cut (fun σ'=>∃ (c1 : Bool),rule_track_turn_j1 p0x0 c1 = r ∧ σ' = ⟨52,[(0,.ptr b_0 0),(3,.bool c1)],[(b_0,.cells [.rptr [.str p0x0.rule_.Key,.str p0x0.rule_.Metric,I p0x0.rule_.Agg,I p0x0.rule_.Long,.bool p0x0.rule_.Above,I p0x0.rule_.On,I p0x0.rule_.Off,I p0x0.rule_.Hold,I p0x0.rule_.Rest,I p0x0.rule_.Empty],.sl 2 b_0x1 r_0x1.length p0x0.window_.length,.sl 2 b_0x2 r_0x2.length p0x0.least_.length,.sl 2 b_0x3 r_0x3.length p0x0.most_.length,I p0x0.sum_,I p0x0.state_,I p0x0.since_,.bool p0x0.firing_,I p0x0.began_,.func f_0x9F f_0x9C]),(b_0x1,aE5 (r_0x1 ++ p0x0.window_)),(b_0x2,aE5 (r_0x2 ++ p0x0.least_)),(b_0x3,aE5 (r_0x3 ++ p0x0.most_))]⟩) ?_ ?_
  · refine tR<|rM J J<|ARun.qv (q_nilCheck_ptr J) J<|rF J J J<|rL J J .p0 J J<|ARun.qv (q_not J) J<|rM J J<|ARun.guard J J J (fun hc=>?_) (fun hc=>?_)
    · rw [andTb hc] at h
      exact rM J J<|rY J J J<|ARun.qv (q_nilCheck_ptr J) J<|rY J J J<|rF J J J<|rY J J J<|rL J J .p0 J J<|rY J J J<|ARun.qv (q_eql J J) J<|rT J J J<|rA J J<|rN<|ATodo.stop<|ImpX.lq [0,0,0,0] ⟨decide (p0x0.state_ = (1 : Int)),h,J⟩ J J
    · rw [andFb hc] at h
      exact rG J J J J<|rG J J J J<|rG J J J J<|rG J J J J<|rE J J J<|rA J J<|rN<|ATodo.stop<|ImpX.lq [0,0,0,0] ⟨false,h,J⟩ J J
  · rintro σ' ⟨c1, h, rfl⟩
    unfold rule_track_turn_j1 at h
    refine ATodo.cond J (fun hc=>?_) (fun hc=>?_)
    · refine have h := iteT hc h; tS<|ATodo.regionM (id := 2) (A := [0,1,3,7,0,16,48,112,240,496,1008,2047,4095]) 13 mixed J (by kernel_rfl) (by kernel_rfl)<|AM.qv (q_move J) J<|AM.qv (q_nilCheck_ptr J) J<|AM.qv (n_field_ptr J J) J<|AM.qv (q_load_ptr J J .p0 J) J<|AM.qv (q_move J) J<|AM.qv (q_nilCheck_ptr J) J<|AM.qv (n_field_ptr J J) J<|AM.qv (q_load_ptr J J .p0 J) J<|AM.qv (q_nilCheck_rptr J) J<|AM.qv (n_field_rptr J J) J<|AM.qv (q_load_rptr J J J) J<|AM.qv (q_addw J J) J<|AM.qv (q_assign J) J<|AM.nil<|rN<|ATodo.ret<|?_
      obtain rfl := h
      exact ImpX.here ⟨_,.cons (.tmp _ _ J) .nil,_,.cons .p0 (.cons .p0 (.cons .p0 (.cons .p0 .nil))),⟨J,J⟩⟩
    · refine have h := iteFb hc h; tS<|ATodo.cut (fun σ'=>∃ (c2 : Bool),rule_track_turn_j2 p0x0 c2 = r ∧ σ' = ⟨52,[(0,.ptr b_0 0),(28,.bool c2)],[(b_0,.cells [.rptr [.str p0x0.rule_.Key,.str p0x0.rule_.Metric,I p0x0.rule_.Agg,I p0x0.rule_.Long,.bool p0x0.rule_.Above,I p0x0.rule_.On,I p0x0.rule_.Off,I p0x0.rule_.Hold,I p0x0.rule_.Rest,I p0x0.rule_.Empty],.sl 2 b_0x1 r_0x1.length p0x0.window_.length,.sl 2 b_0x2 r_0x2.length p0x0.least_.length,.sl 2 b_0x3 r_0x3.length p0x0.most_.length,I p0x0.sum_,I p0x0.state_,I p0x0.since_,.bool p0x0.firing_,I p0x0.began_,.func f_0x9F f_0x9C]),(b_0x1,aE5 (r_0x1 ++ p0x0.window_)),(b_0x2,aE5 (r_0x2 ++ p0x0.least_)),(b_0x3,aE5 (r_0x3 ++ p0x0.most_))]⟩) ?_ ?_
      · refine tR<|rM J J<|ARun.qv (q_nilCheck_ptr J) J<|rF J J J<|rL J J .p0 J J<|rM J J<|ARun.guard J J J (fun hc=>?_) (fun hc=>?_)
        · rw [andTb hc] at h
          exact rM J J<|rY J J J<|ARun.qv (q_nilCheck_ptr J) J<|rY J J J<|rF J J J<|rY J J J<|rL J J .p0 J J<|rY J J J<|ARun.qv (q_eql J J) J<|rT J J J<|rA J J<|rN<|ATodo.stop<|ImpX.lq [0,0,0,0] ⟨decide (p0x0.state_ = (2 : Int)),h,J⟩ J J
        · rw [andFb hc] at h
          exact rG J J J J<|rG J J J J<|rG J J J J<|rG J J J J<|rE J J J<|rA J J<|rN<|ATodo.stop<|ImpX.lq [0,0,0,0] ⟨false,h,J⟩ J J
      · rintro σ' ⟨c2, h, rfl⟩
        unfold rule_track_turn_j2 at h
        refine ATodo.cond J (fun hc=>?_) (fun hc=>?_)
        · refine have h := iteT hc h; tS<|ATodo.regionM (id := 4) (A := [0,1,3,7,0,16,48,112,240,496,1008,2047,4095]) 13 mixed J (by kernel_rfl) (by kernel_rfl)<|AM.qv (q_move J) J<|AM.qv (q_nilCheck_ptr J) J<|AM.qv (n_field_ptr J J) J<|AM.qv (q_load_ptr J J .p0 J) J<|AM.qv (q_move J) J<|AM.qv (q_nilCheck_ptr J) J<|AM.qv (n_field_ptr J J) J<|AM.qv (q_load_ptr J J .p0 J) J<|AM.qv (q_nilCheck_rptr J) J<|AM.qv (n_field_rptr J J) J<|AM.qv (q_load_rptr J J J) J<|AM.qv (q_addw J J) J<|AM.qv (q_assign J) J<|AM.nil<|rN<|ATodo.ret<|?_
          obtain rfl := h
          exact ImpX.here ⟨_,.cons (.tmp _ _ J) .nil,_,.cons .p0 (.cons .p0 (.cons .p0 (.cons .p0 .nil))),⟨J,J⟩⟩
        · refine have h := iteFb hc h; tK<|ATodo.blk<|tSR<|rA J J<|rN<|ATodo.ret<|?_
          obtain rfl := h
          exact ImpX.here ⟨_,.cons (.tmp _ _ J) .nil,_,.cons .p0 (.cons .p0 (.cons .p0 (.cons .p0 .nil))),⟨J,J⟩⟩

theorem rule_track_due_c [GI : GTab] {b_0 : Bk} {b_0x1 : Bk} {r_0x1 : List Rule_sample} {b_0x2 : Bk} {r_0x2 : List Rule_sample} {b_0x3 : Bk} {r_0x3 : List Rule_sample} {f_0x9F : Fn} {f_0x9C : List AV} {p0x0 : Rule_track} {r : Int} (h : rule_track_due p0x0 = some r) : ACall Tryz.prog 156 [.ptr b_0 0] [(b_0,.cells [.rptr [.str p0x0.rule_.Key,.str p0x0.rule_.Metric,I p0x0.rule_.Agg,I p0x0.rule_.Long,.bool p0x0.rule_.Above,I p0x0.rule_.On,I p0x0.rule_.Off,I p0x0.rule_.Hold,I p0x0.rule_.Rest,I p0x0.rule_.Empty],.sl 2 b_0x1 r_0x1.length p0x0.window_.length,.sl 2 b_0x2 r_0x2.length p0x0.least_.length,.sl 2 b_0x3 r_0x3.length p0x0.most_.length,I p0x0.sum_,I p0x0.state_,I p0x0.since_,.bool p0x0.firing_,I p0x0.began_,.func f_0x9F f_0x9C]),(b_0x1,aE5 (r_0x1 ++ p0x0.window_)),(b_0x2,aE5 (r_0x2 ++ p0x0.least_)),(b_0x3,aE5 (r_0x3 ++ p0x0.most_))] (T0 ([(b_0,.cells [.rptr [.str p0x0.rule_.Key,.str p0x0.rule_.Metric,I p0x0.rule_.Agg,I p0x0.rule_.Long,.bool p0x0.rule_.Above,I p0x0.rule_.On,I p0x0.rule_.Off,I p0x0.rule_.Hold,I p0x0.rule_.Rest,I p0x0.rule_.Empty],.sl 2 b_0x1 r_0x1.length p0x0.window_.length,.sl 2 b_0x2 r_0x2.length p0x0.least_.length,.sl 2 b_0x3 r_0x3.length p0x0.most_.length,I p0x0.sum_,I p0x0.state_,I p0x0.since_,.bool p0x0.firing_,I p0x0.began_,.func f_0x9F f_0x9C]),(b_0x1,aE5 (r_0x1 ++ p0x0.window_)),(b_0x2,aE5 (r_0x2 ++ p0x0.least_)),(b_0x3,aE5 (r_0x3 ++ p0x0.most_))]) (I r)) := by
  unfold rule_track_due at h
  refine ACall.lessH ?_
  refine ACall.bodyN Tryz.func156 J Tryz.ntmps156 Tryz.results156 J J ?_
  refine tSR<|rA J J<|rN<|tSR<|rM J J<|t_call0 J (rule_track_turn_c J) (CoL.refl _) (.cons .p0 (.cons .p0 (.cons .p0 (.cons .p0 .nil)))) J J<|ARun.qv (q_min J J) J<|rA J J<|rN<|tS<|tSR<|rM J J<|ARun.qv (q_nilCheck_ptr J) J<|rF J J J<|rL J J .p0 J J<|ARun.qv (q_len_sl J) J<|ARun.qv (q_gtr J J) J<|rN<|ATodo.cut (fun σ'=>∃ (n1 : Int),rule_track_due_j1 n1 = some r ∧ σ' = ⟨31,[(3,I n1)],[(b_0,.cells [.rptr [.str p0x0.rule_.Key,.str p0x0.rule_.Metric,I p0x0.rule_.Agg,I p0x0.rule_.Long,.bool p0x0.rule_.Above,I p0x0.rule_.On,I p0x0.rule_.Off,I p0x0.rule_.Hold,I p0x0.rule_.Rest,I p0x0.rule_.Empty],.sl 2 b_0x1 r_0x1.length p0x0.window_.length,.sl 2 b_0x2 r_0x2.length p0x0.least_.length,.sl 2 b_0x3 r_0x3.length p0x0.most_.length,I p0x0.sum_,I p0x0.state_,I p0x0.since_,.bool p0x0.firing_,I p0x0.began_,.func f_0x9F f_0x9C]),(b_0x1,aE5 (r_0x1 ++ p0x0.window_)),(b_0x2,aE5 (r_0x2 ++ p0x0.least_)),(b_0x3,aE5 (r_0x3 ++ p0x0.most_))]⟩) ?_ ?_
  · refine ATodo.cond_d J (fun hc=>?_) (fun hc=>?_)
    · exact have h := iteT hc h; ATodo.regionM (id := 3) (A := [0,0,2,6,14,30,62,126,0,256,768,1792,3840,7936,16128,32766,65535,131071]) 18 mixed J (by kernel_rfl) (by kernel_rfl)<|AM.qv (q_move J) J<|AM.qv (q_move J) J<|AM.qv (q_nilCheck_ptr J) J<|AM.qv (n_field_ptr J J) J<|AM.qv (q_load_ptr J J .p0 J) J<|bndE h fun v2 e1 h=>AM.qv (t_index_dq (Ps := r_0x1) (Xs := p0x0.window_) J J J e1) J<|AM.qv (t_field_aptr J J) J<|AM.qv (t_load_dq (g := Rule_sample.av) (Ps := r_0x1) (Xs := p0x0.window_) J J .p1 e1 J) J<|AM.qv (q_move J) J<|AM.qv (q_nilCheck_ptr J) J<|AM.qv (n_field_ptr J J) J<|AM.qv (q_load_ptr J J .p0 J) J<|AM.qv (q_nilCheck_rptr J) J<|AM.qv (n_field_rptr J J) J<|AM.qv (q_load_rptr J J J) J<|AM.qv (q_addw J J) J<|AM.qv (q_min J J) J<|AM.qv (q_assign J) J<|AM.nil<|rN<|ATodo.stop<|ImpX.lq [0,0,0,0] ⟨min (min (rule_track_turn p0x0) (345686400000 : Int)) (w64 (v2.at_ + p0x0.rule_.Long)),h,J⟩ J J
    · exact have h := iteF hc h; tK<|ATodo.stop<|ImpX.lq [0,0,0,0] ⟨min (rule_track_turn p0x0) (345686400000 : Int),h,J⟩ J J
  · rintro σ' ⟨n1, h, rfl⟩
    unfold rule_track_due_j1 at h
    refine tSR<|rM J J<|rA J J<|rN<|ATodo.ret<|?_
    obtain rfl := Option.some.inj h
    exact ImpX.here ⟨_,.cons (.tmp _ _ J) .nil,_,.cons .p0 (.cons .p0 (.cons .p0 (.cons .p0 .nil))),⟨J,J⟩⟩

theorem rule_track_drop_c [GI : GTab] {b_0 : Bk} {b_0x1 : Bk} {r_0x1 : List Rule_sample} {b_0x2 : Bk} {r_0x2 : List Rule_sample} {b_0x3 : Bk} {r_0x3 : List Rule_sample} {f_0x9F : Fn} {f_0x9C : List AV} {p0x0 : Rule_track} {p1x0 : Int} {r : Rule_track} (h : rule_track_drop p0x0 p1x0 = some r) : ACall Tryz.prog 145 [.ptr b_0 0,I p1x0] [(b_0,.cells [.rptr [.str p0x0.rule_.Key,.str p0x0.rule_.Metric,I p0x0.rule_.Agg,I p0x0.rule_.Long,.bool p0x0.rule_.Above,I p0x0.rule_.On,I p0x0.rule_.Off,I p0x0.rule_.Hold,I p0x0.rule_.Rest,I p0x0.rule_.Empty],.sl 2 b_0x1 r_0x1.length p0x0.window_.length,.sl 2 b_0x2 r_0x2.length p0x0.least_.length,.sl 2 b_0x3 r_0x3.length p0x0.most_.length,I p0x0.sum_,I p0x0.state_,I p0x0.since_,.bool p0x0.firing_,I p0x0.began_,.func f_0x9F f_0x9C]),(b_0x1,aE5 (r_0x1 ++ p0x0.window_)),(b_0x2,aE5 (r_0x2 ++ p0x0.least_)),(b_0x3,aE5 (r_0x3 ++ p0x0.most_))] (T6 (fun c_0x1 s_0x1 c_0x2 s_0x2 c_0x3 s_0x3=>[(b_0,.cells [.rptr [.str p0x0.rule_.Key,.str p0x0.rule_.Metric,I p0x0.rule_.Agg,I p0x0.rule_.Long,.bool p0x0.rule_.Above,I p0x0.rule_.On,I p0x0.rule_.Off,I p0x0.rule_.Hold,I p0x0.rule_.Rest,I p0x0.rule_.Empty],.sl 2 c_0x1 s_0x1.length r.window_.length,.sl 2 c_0x2 s_0x2.length r.least_.length,.sl 2 c_0x3 s_0x3.length r.most_.length,I r.sum_,I r.state_,I r.since_,.bool r.firing_,I r.began_,.func f_0x9F f_0x9C]),(c_0x1,aE5 (s_0x1 ++ r.window_)),(c_0x2,aE5 (s_0x2 ++ r.least_)),(c_0x3,aE5 (s_0x3 ++ r.most_))]) (fun c_0x1 s_0x1 c_0x2 s_0x2 c_0x3 s_0x3=>.tup [])) := by
  unfold rule_track_drop at h
  refine ACall.lessH ?_
  refine ACall.bodyN Tryz.func145 J Tryz.ntmps145 Tryz.results145 J J ?_
  refine ATodo.block<|ATodo.loopI (fun x : (List Rule_sample) × (List Rule_sample) × (List Rule_sample) × Int=>rule_track_drop_b1 p0x0 p1x0 x.1 x.2.1 x.2.2.1 x.2.2.2) (fun x σ'=>∃ (r9 : List Rule_sample) (r11 : List Rule_sample) (r13 : List Rule_sample),σ' = ⟨85,[(0,.ptr b_0 0),(1,I p1x0)],[(b_0,.cells [.rptr [.str p0x0.rule_.Key,.str p0x0.rule_.Metric,I p0x0.rule_.Agg,I p0x0.rule_.Long,.bool p0x0.rule_.Above,I p0x0.rule_.On,I p0x0.rule_.Off,I p0x0.rule_.Hold,I p0x0.rule_.Rest,I p0x0.rule_.Empty],.sl 2 b_0x1 r9.length x.1.length,.sl 2 b_0x2 r11.length x.2.1.length,.sl 2 b_0x3 r13.length x.2.2.1.length,I x.2.2.2,I p0x0.state_,I p0x0.since_,.bool p0x0.firing_,I p0x0.began_,.func f_0x9F f_0x9C]),(b_0x1,aE5 (r9 ++ x.1)),(b_0x2,aE5 (r11 ++ x.2.1)),(b_0x3,aE5 (r13 ++ x.2.2.1))]⟩) h ?_ ?_
  · exact ImpX.lq [0,0,0,0] ⟨r_0x1,r_0x2,r_0x3,J⟩ J J
  · intro x z1 σ' J1 hmk h hJ1 hA1
    obtain ⟨l8, l10, l12, n14⟩ := x
    obtain ⟨r9, r11, r13, rfl⟩ := hmk
    replace h : rule_track_drop_b1 p0x0 p1x0 l8 l10 l12 n14 = some z1 := h
    unfold rule_track_drop_b1 at h
    refine tS<|tS<|ATodo.cut (fun σ'=>∃ (c15 : Bool),rule_track_drop_j1 p0x0 l8 l10 l12 n14 c15 = some z1 ∧ σ' = ⟨85,[(0,.ptr b_0 0),(1,I p1x0),(29,.bool c15)],[(b_0,.cells [.rptr [.str p0x0.rule_.Key,.str p0x0.rule_.Metric,I p0x0.rule_.Agg,I p0x0.rule_.Long,.bool p0x0.rule_.Above,I p0x0.rule_.On,I p0x0.rule_.Off,I p0x0.rule_.Hold,I p0x0.rule_.Rest,I p0x0.rule_.Empty],.sl 2 b_0x1 r9.length l8.length,.sl 2 b_0x2 r11.length l10.length,.sl 2 b_0x3 r13.length l12.length,I n14,I p0x0.state_,I p0x0.since_,.bool p0x0.firing_,I p0x0.began_,.func f_0x9F f_0x9C]),(b_0x1,aE5 (r9 ++ l8)),(b_0x2,aE5 (r11 ++ l10)),(b_0x3,aE5 (r13 ++ l12))]⟩) ?_ ?_
    · refine ATodo.regionM (id := 0) (A := [0,1,3,7,15,31,63,127,255,511,1023,2047,4095,8191,127,16511,49279,114815,245887,508031,1032319,2097151,127,8388607,16777215]) 25 mixed J (by kernel_rfl) (by kernel_rfl)<|AM.qv (q_move J) J<|AM.qv (q_nilCheck_ptr J) J<|AM.qv (n_field_ptr J J) J<|AM.qv (q_load_ptr J J .p0 J) J<|AM.qv (q_len_sl J) J<|AM.qv (q_gtr J J) J<|AM.qv (q_move J) J<|AM.guard_dt J J J (fun hc=>?_) (fun hc=>?_)
      · exact have h := iteT hc h; AM.qv (q_move J) J<|AM.guard_yes J J J<|AM.qv (q_nilCheck_ptr J) J<|AM.guard_yes J J J<|AM.qv (n_field_ptr J J) J<|AM.guard_yes J J J<|AM.qv (q_load_ptr J J .p0 J) J<|AM.guard_yes J J J<|bndE h fun v16 e1 h=>AM.qv (t_index_dq (Ps := r9) (Xs := l8) J J J e1) J<|AM.guard_yes J J J<|AM.qv (t_field_aptr J J) J<|AM.guard_yes J J J<|AM.qv (t_load_dq (g := Rule_sample.av) (Ps := r9) (Xs := l8) J J .p1 e1 J) J<|AM.guard_yes J J J<|AM.qv (q_move J) J<|AM.guard_yes J J J<|AM.qv (q_nilCheck_ptr J) J<|AM.guard_yes J J J<|AM.qv (n_field_ptr J J) J<|AM.guard_yes J J J<|AM.qv (q_load_ptr J J .p0 J) J<|AM.guard_yes J J J<|AM.qv (q_nilCheck_rptr J) J<|AM.guard_yes J J J<|AM.qv (n_field_rptr J J) J<|AM.guard_yes J J J<|AM.qv (q_load_rptr J J J) J<|AM.guard_yes J J J<|AM.qv (q_addw J J) J<|AM.guard_yes J J J<|AM.qv (q_move J) J<|AM.guard_yes J J J<|AM.qv (q_leq J J) J<|AM.qv (q_pick_t J J) J<|AM.nil<|rN<|ATodo.stop<|ImpX.lq [0,0,0,0] ⟨decide ((w64 (v16.at_ + p0x0.rule_.Long)) ≤ p1x0),h,J⟩ J J
      · exact have h := iteF hc h; AM.guard_no J J J J<|AM.guard_no J J J J<|AM.guard_no J J J J<|AM.guard_no J J J J<|AM.guard_no J J J J<|AM.guard_no J J J J<|AM.guard_no J J J J<|AM.guard_no J J J J<|AM.guard_no J J J J<|AM.guard_no J J J J<|AM.guard_no J J J J<|AM.guard_no J J J J<|AM.guard_no J J J J<|AM.guard_no J J J J<|AM.guard_no J J J J<|AM.guard_no J J J J<|AM.qv (q_pick_f J J) J<|AM.nil<|rN<|ATodo.stop<|ImpX.lq [0,0,0,0] ⟨false,h,J⟩ J J
    · rintro σ' ⟨c15, h, rfl⟩
      unfold rule_track_drop_j1 at h
      refine ATodo.cond J (fun hc=>?_) (fun hc=>?_)
      · refine have h := iteT hc h; tK<|ATodo.block<|tSR<|rM J J<|ARun.qv (q_nilCheck_ptr J) J<|rF J J J<|rL J J .p0 J J<|bndE h fun v17 e2 h=>ARun.qv (t_index_dq (Ps := r9) (Xs := l8) J J J e2) J<|ARun.qv (t_load_dq_agg (g := Rule_sample.av) (Ps := r9) (Xs := l8) J J .p1 J e2 J) J<|n_alloc J J J J fun b18=>n_store_ptr J J J J .p0 J J<|rN<|tSR<|rM J J<|rM J J<|ARun.qv (q_nilCheck_ptr J) J<|rF J J J<|rL J J .p1 J J<|bndE h fun l19 e3 h=>ARun.qv (t_slice_dq (Ps := r9) (Xs := l8) J J (.some _ _ _ J) .none J J e3) J<|ARun.qv (q_nilCheck_ptr J) J<|rF J J J<|n_store_ptr J J J J .p1 J J<|ARun.ghost<|ImpX.dqCut (g := Rule_sample.av) (Ps := r9) (Xs := l8) e3 (fun _=>.p2) fun r20 hre4=>ImpX.here<|ARun.ghost<|ImpX.eqBox (j := 1) (av' := .sl 2 b_0x1 r20.length l19.length) .p1 J (congrArg (fun q=>AV.sl 2 b_0x1 q l19.length) hre4) J<|ImpX.here<|rN<|tS<|ATodo.regionM (id := 3) (A := [0,1,3,7,0,16,63,127,255,511]) 9 mixed J (by kernel_rfl) (by kernel_rfl)<|AM.qv (q_move J) J<|AM.qv (q_nilCheck_ptr J) J<|AM.qv (n_field_ptr J J) J<|AM.qv (q_load_ptr J J .p1 J) J<|AM.qv (n_field_ptr J J) J<|AM.qv (q_load_ptr J J .p0 J) J<|AM.qv (q_subw J J) J<|AM.qv (q_nilCheck_ptr J) J<|AM.qv (n_field_ptr J J) J<|AM.nil<|n_store_ptr J J J J .p1 J J<|rN<|tS<|tS<|ATodo.regionM (id := 4) (A := [0,1,3,7,15,31,0,127]) 8 mixed J (by kernel_rfl) (by kernel_rfl)<|AM.qv (q_move J) J<|AM.qv (q_nilCheck_ptr J) J<|AM.qv (n_field_ptr J J) J<|AM.qv (q_load_ptr J J .p1 J) J<|bndE h fun v21 e5 h=>AM.qv (t_index_dq (Ps := r11) (Xs := l10) J J J e5) J<|AM.qv (t_load_dq_agg (g := Rule_sample.av) (Ps := r11) (Xs := l10) J J .p3 J e5 J) J<|AM.qv (q_load_ptr_all J J .p0 J) J<|AM.qv (t_teq (g := Rule_sample.av) (X := v21) (Y := v17) J J J J J) J<|AM.nil<|rN<|ATodo.cut (fun σ'=>∃ (r23 : List Rule_sample) (l22 : List Rule_sample),rule_track_drop_j2 l12 n14 v17 l19 l22 = some z1 ∧ σ' = ⟨85,[(0,.ptr b_0 0),(1,I p1x0),(4,.ptr b18 0)],[(b_0,.cells [.rptr [.str p0x0.rule_.Key,.str p0x0.rule_.Metric,I p0x0.rule_.Agg,I p0x0.rule_.Long,.bool p0x0.rule_.Above,I p0x0.rule_.On,I p0x0.rule_.Off,I p0x0.rule_.Hold,I p0x0.rule_.Rest,I p0x0.rule_.Empty],.sl 2 b_0x1 r20.length l19.length,.sl 2 b_0x2 r23.length l22.length,.sl 2 b_0x3 r13.length l12.length,I (w64 (n14 - v17.value_)),I p0x0.state_,I p0x0.since_,.bool p0x0.firing_,I p0x0.began_,.func f_0x9F f_0x9C]),(b_0x1,aE5 (r20 ++ l19)),(b_0x2,aE5 (r23 ++ l22)),(b_0x3,aE5 (r13 ++ l12)),(b18,.cells [I v17.at_,I v17.value_])]⟩) ?_ ?_
        · refine ATodo.cond_d J (fun hc=>?_) (fun hc=>?_)
          · exact have h := iteT hc h; tR<|rM J J<|rM J J<|ARun.qv (q_nilCheck_ptr J) J<|rF J J J<|rL J J .p1 J J<|bndE h fun l24 e6 h=>ARun.qv (t_slice_dq (Ps := r11) (Xs := l10) J J (.some _ _ _ J) .none J J e6) J<|ARun.qv (q_nilCheck_ptr J) J<|rF J J J<|n_store_ptr J J J J .p1 J J<|ARun.ghost<|ImpX.dqCut (g := Rule_sample.av) (Ps := r11) (Xs := l10) e6 (fun _=>.p3) fun r25 hre7=>ImpX.here<|ARun.ghost<|ImpX.eqBox (j := 2) (av' := .sl 2 b_0x2 r25.length l24.length) .p1 J (congrArg (fun q=>AV.sl 2 b_0x2 q l24.length) hre7) J<|ImpX.here<|rN<|ATodo.stop<|ImpX.lq [1,1,1,1,0] ⟨r25,l24,h,J⟩ J J
          · exact have h := iteF hc h; tK<|ATodo.stop<|ImpX.lq [1,1,1,1,0] ⟨r11,l10,h,J⟩ J J
        · rintro σ' ⟨r23, l22, h, rfl⟩
          unfold rule_track_drop_j2 at h
          refine tS<|ATodo.regionM (id := 6) (A := [0,1,3,7,15,31,0,127]) 8 mixed J (by kernel_rfl) (by kernel_rfl)<|AM.qv (q_move J) J<|AM.qv (q_nilCheck_ptr J) J<|AM.qv (n_field_ptr J J) J<|AM.qv (q_load_ptr J J .p0 J) J<|bndE h fun v26 e8 h=>AM.qv (t_index_dq (Ps := r13) (Xs := l12) J J J e8) J<|AM.qv (t_load_dq_agg (g := Rule_sample.av) (Ps := r13) (Xs := l12) J J .p3 J e8 J) J<|AM.qv (q_load_ptr_all J J .p4 J) J<|AM.qv (t_teq (g := Rule_sample.av) (X := v26) (Y := v17) J J J J J) J<|AM.nil<|rN<|ATodo.cut (fun σ'=>∃ (r28 : List Rule_sample) (l27 : List Rule_sample),rule_track_drop_j3 n14 v17 l19 l22 l27 = some z1 ∧ σ' = ⟨85,[(0,.ptr b_0 0),(1,I p1x0)],[(b_0,.cells [.rptr [.str p0x0.rule_.Key,.str p0x0.rule_.Metric,I p0x0.rule_.Agg,I p0x0.rule_.Long,.bool p0x0.rule_.Above,I p0x0.rule_.On,I p0x0.rule_.Off,I p0x0.rule_.Hold,I p0x0.rule_.Rest,I p0x0.rule_.Empty],.sl 2 b_0x1 r20.length l19.length,.sl 2 b_0x2 r23.length l22.length,.sl 2 b_0x3 r28.length l27.length,I (w64 (n14 - v17.value_)),I p0x0.state_,I p0x0.since_,.bool p0x0.firing_,I p0x0.began_,.func f_0x9F f_0x9C]),(b_0x1,aE5 (r20 ++ l19)),(b_0x2,aE5 (r23 ++ l22)),(b_0x3,aE5 (r28 ++ l27))]⟩) ?_ ?_
          · refine ATodo.cond_d J (fun hc=>?_) (fun hc=>?_)
            · exact have h := iteT hc h; tR<|rM J J<|rM J J<|ARun.qv (q_nilCheck_ptr J) J<|rF J J J<|rL J J .p0 J J<|bndE h fun l29 e9 h=>ARun.qv (t_slice_dq (Ps := r13) (Xs := l12) J J (.some _ _ _ J) .none J J e9) J<|ARun.qv (q_nilCheck_ptr J) J<|rF J J J<|n_store_ptr J J J J .p0 J J<|ARun.ghost<|ImpX.dqCut (g := Rule_sample.av) (Ps := r13) (Xs := l12) e9 (fun _=>.p3) fun r30 hre10=>ImpX.here<|ARun.ghost<|ImpX.eqBox (j := 3) (av' := .sl 2 b_0x3 r30.length l29.length) .p0 J (congrArg (fun q=>AV.sl 2 b_0x3 q l29.length) hre10) J<|ImpX.here<|rN<|ATodo.stop<|ImpX.lq [0,0,0,0] ⟨r30,l29,h,J⟩ J J
            · exact have h := iteF hc h; tK<|ATodo.stop<|ImpX.lq [0,0,0,0] ⟨r13,l12,h,J⟩ J J
          · rintro σ' ⟨r28, l27, h, rfl⟩
            unfold rule_track_drop_j3 at h
            refine ATodo.blk<|ATodo.stop<|?_
            obtain rfl := Option.some.inj h
            exact hJ1 _ _ J<|ImpX.lq [0,0,0,0] ⟨r20,r23,r28,J⟩ J J
      · refine have h := iteFb hc h; ATodo.exit J<|have h := outL h hA1; ATodo.nil<|?_
        obtain rfl := Option.some.inj h
        exact ImpX.here ⟨_,.nil,_,.cons .p0 (.cons .p0 (.cons .p0 (.cons .p0 .nil))),⟨b_0x1,r9,b_0x2,r11,b_0x3,r13,J,J⟩⟩

theorem rule_track_update_c [GI : GTab] {b_0 : Bk} {b_0x1 : Bk} {r_0x1 : List Rule_sample} {b_0x2 : Bk} {r_0x2 : List Rule_sample} {b_0x3 : Bk} {r_0x3 : List Rule_sample} {f_0x9F : Fn} {f_0x9C : List AV} {p0x0 : Rule_track} {p1x0 : Int} {r : Rule_track} (h : rule_track_update p0x0 p1x0 = some r) : ACall Tryz.prog 146 [.ptr b_0 0,I p1x0] [(b_0,.cells [.rptr [.str p0x0.rule_.Key,.str p0x0.rule_.Metric,I p0x0.rule_.Agg,I p0x0.rule_.Long,.bool p0x0.rule_.Above,I p0x0.rule_.On,I p0x0.rule_.Off,I p0x0.rule_.Hold,I p0x0.rule_.Rest,I p0x0.rule_.Empty],.sl 2 b_0x1 r_0x1.length p0x0.window_.length,.sl 2 b_0x2 r_0x2.length p0x0.least_.length,.sl 2 b_0x3 r_0x3.length p0x0.most_.length,I p0x0.sum_,I p0x0.state_,I p0x0.since_,.bool p0x0.firing_,I p0x0.began_,.func f_0x9F f_0x9C]),(b_0x1,aE5 (r_0x1 ++ p0x0.window_)),(b_0x2,aE5 (r_0x2 ++ p0x0.least_)),(b_0x3,aE5 (r_0x3 ++ p0x0.most_))] (T6 (fun c_0x1 s_0x1 c_0x2 s_0x2 c_0x3 s_0x3=>[(b_0,.cells [.rptr [.str p0x0.rule_.Key,.str p0x0.rule_.Metric,I p0x0.rule_.Agg,I p0x0.rule_.Long,.bool p0x0.rule_.Above,I p0x0.rule_.On,I p0x0.rule_.Off,I p0x0.rule_.Hold,I p0x0.rule_.Rest,I p0x0.rule_.Empty],.sl 2 c_0x1 s_0x1.length r.window_.length,.sl 2 c_0x2 s_0x2.length r.least_.length,.sl 2 c_0x3 s_0x3.length r.most_.length,I r.sum_,I r.state_,I r.since_,.bool r.firing_,I r.began_,.func f_0x9F f_0x9C]),(c_0x1,aE5 (s_0x1 ++ r.window_)),(c_0x2,aE5 (s_0x2 ++ r.least_)),(c_0x3,aE5 (s_0x3 ++ r.most_))]) (fun c_0x1 s_0x1 c_0x2 s_0x2 c_0x3 s_0x3=>.tup [])) := by
  unfold rule_track_update at h
  refine ACall.lessH ?_
  refine ACall.bodyN Tryz.func146 J Tryz.ntmps146 Tryz.results146 J J ?_
  refine tSR<|rM J J<|bndE h fun v1 e1 h=>t_call0 J (rule_track_now_c e1) (CoL.refl _) (.cons .p0 (.cons .p0 (.cons .p0 (.cons .p0 .nil)))) J J<|rA J J<|rN<|tSR<|rM J J<|rM J J<|ARun.qv (q_nilCheck_ptr J) J<|rF J J J<|rL J J .p0 J J<|ARun.qv (q_neq J J) J<|rN<|ATodo.cut (fun σ'=>∃ (n2 : Int) (n3 : Int),rule_track_update_j1 p0x0 n2 n3 = some r ∧ σ' = ⟨21,[],[(b_0,.cells [.rptr [.str p0x0.rule_.Key,.str p0x0.rule_.Metric,I p0x0.rule_.Agg,I p0x0.rule_.Long,.bool p0x0.rule_.Above,I p0x0.rule_.On,I p0x0.rule_.Off,I p0x0.rule_.Hold,I p0x0.rule_.Rest,I p0x0.rule_.Empty],.sl 2 b_0x1 r_0x1.length p0x0.window_.length,.sl 2 b_0x2 r_0x2.length p0x0.least_.length,.sl 2 b_0x3 r_0x3.length p0x0.most_.length,I p0x0.sum_,I n2,I n3,.bool p0x0.firing_,I p0x0.began_,.func f_0x9F f_0x9C]),(b_0x1,aE5 (r_0x1 ++ p0x0.window_)),(b_0x2,aE5 (r_0x2 ++ p0x0.least_)),(b_0x3,aE5 (r_0x3 ++ p0x0.most_))]⟩) ?_ ?_
  · refine ATodo.cond_d J (fun hc=>?_) (fun hc=>?_)
    · exact have h := iteT hc h; tR<|rM J J<|rM J J<|rM J J<|rM J J<|ARun.qv (q_nilCheck_ptr J) J<|rF J J J<|n_store_ptr J J J J .p0 J J<|ARun.qv (q_nilCheck_ptr J) J<|rF J J J<|n_store_ptr J J J J .p0 J J<|rN<|ATodo.stop<|ImpX.lq [0,0,0,0] ⟨v1,p1x0,h,J⟩ J J
    · exact have h := iteF hc h; tK<|ATodo.stop<|ImpX.lq [0,0,0,0] ⟨p0x0.state_,p0x0.since_,h,J⟩ J J
  · rintro σ' ⟨n2, n3, h, rfl⟩
    unfold rule_track_update_j1 at h
    refine ATodo.nil<|?_
    obtain rfl := Option.some.inj h
    exact ImpX.here ⟨_,.nil,_,.cons .p0 (.cons .p0 (.cons .p0 (.cons .p0 .nil))),⟨b_0x1,r_0x1,b_0x2,r_0x2,b_0x3,r_0x3,J,J⟩⟩

theorem rule_standing_1x_c [GI : GTab] {p0x0 : Int} {p1x0 : Bool} {r : Unit} (h : rule_standing_1x p0x0 p1x0 = r) : Pu Tryz.prog 144 [I p0x0,.bool p1x0] (.tup []) := by
  unfold rule_standing_1x at h
  refine ACall.bodyN Tryz.func144 J Tryz.ntmps144 Tryz.results144 J J ?_
  refine tK<|ATodo.nil<|?_
  obtain rfl := h
  exact ImpX.here ⟨_,.nil,J⟩

theorem rule_track_advance_c0x9xrule_standing_1x_c [GI : GTab] {b_0 : Bk} {b_0x1 : Bk} {r_0x1 : List Rule_sample} {b_0x2 : Bk} {r_0x2 : List Rule_sample} {b_0x3 : Bk} {r_0x3 : List Rule_sample} {p0x0 : Rule_track} {p1x0 : Int} {r : Rule_track} (h : rule_track_advance_c0x9xrule_standing_1x p0x0 p1x0 = some r) : ACall Tryz.prog 131 [.ptr b_0 0,I p1x0] [(b_0,.cells [.rptr [.str p0x0.rule_.Key,.str p0x0.rule_.Metric,I p0x0.rule_.Agg,I p0x0.rule_.Long,.bool p0x0.rule_.Above,I p0x0.rule_.On,I p0x0.rule_.Off,I p0x0.rule_.Hold,I p0x0.rule_.Rest,I p0x0.rule_.Empty],.sl 2 b_0x1 r_0x1.length p0x0.window_.length,.sl 2 b_0x2 r_0x2.length p0x0.least_.length,.sl 2 b_0x3 r_0x3.length p0x0.most_.length,I p0x0.sum_,I p0x0.state_,I p0x0.since_,.bool p0x0.firing_,I p0x0.began_,.func (.func 144) []]),(b_0x1,aE5 (r_0x1 ++ p0x0.window_)),(b_0x2,aE5 (r_0x2 ++ p0x0.least_)),(b_0x3,aE5 (r_0x3 ++ p0x0.most_))] (T6 (fun c_0x1 s_0x1 c_0x2 s_0x2 c_0x3 s_0x3=>[(b_0,.cells [.rptr [.str p0x0.rule_.Key,.str p0x0.rule_.Metric,I p0x0.rule_.Agg,I p0x0.rule_.Long,.bool p0x0.rule_.Above,I p0x0.rule_.On,I p0x0.rule_.Off,I p0x0.rule_.Hold,I p0x0.rule_.Rest,I p0x0.rule_.Empty],.sl 2 c_0x1 s_0x1.length r.window_.length,.sl 2 c_0x2 s_0x2.length r.least_.length,.sl 2 c_0x3 s_0x3.length r.most_.length,I r.sum_,I r.state_,I r.since_,.bool r.firing_,I r.began_,.func (.func 144) []]),(c_0x1,aE5 (s_0x1 ++ r.window_)),(c_0x2,aE5 (s_0x2 ++ r.least_)),(c_0x3,aE5 (s_0x3 ++ r.most_))]) (fun c_0x1 s_0x1 c_0x2 s_0x2 c_0x3 s_0x3=>.tup [])) := by
  unfold rule_track_advance_c0x9xrule_standing_1x at h
  refine ACall.lessH ?_
  refine ACall.bodyN Tryz.func131 J Tryz.ntmps131 Tryz.results131 J J ?_
  refine ATodo.block<|ATodo.loopI (fun x : (List Rule_sample) × (List Rule_sample) × (List Rule_sample) × Int × Int × Int × Bool × Int=>rule_track_advance_c0x9xrule_standing_1x_b1 p0x0 p1x0 x.1 x.2.1 x.2.2.1 x.2.2.2.1 x.2.2.2.2.1 x.2.2.2.2.2.1 x.2.2.2.2.2.2.1 x.2.2.2.2.2.2.2) (fun x σ'=>∃ (b15 : Bk) (r17 : List Rule_sample) (b18 : Bk) (r20 : List Rule_sample) (b21 : Bk) (r23 : List Rule_sample),σ' = ⟨47,[(0,.ptr b_0 0),(1,I p1x0)],[(b_0,.cells [.rptr [.str p0x0.rule_.Key,.str p0x0.rule_.Metric,I p0x0.rule_.Agg,I p0x0.rule_.Long,.bool p0x0.rule_.Above,I p0x0.rule_.On,I p0x0.rule_.Off,I p0x0.rule_.Hold,I p0x0.rule_.Rest,I p0x0.rule_.Empty],.sl 2 b15 r17.length x.1.length,.sl 2 b18 r20.length x.2.1.length,.sl 2 b21 r23.length x.2.2.1.length,I x.2.2.2.1,I x.2.2.2.2.1,I x.2.2.2.2.2.1,.bool x.2.2.2.2.2.2.1,I x.2.2.2.2.2.2.2,.func (.func 144) []]),(b15,aE5 (r17 ++ x.1)),(b18,aE5 (r20 ++ x.2.1)),(b21,aE5 (r23 ++ x.2.2.1))]⟩) h ?_ ?_
  · exact ImpX.lq [0,0,0,0] ⟨b_0x1,r_0x1,b_0x2,r_0x2,b_0x3,r_0x3,J⟩ J J
  · intro x z1 σ' J1 hmk h hJ1 hA1
    obtain ⟨l16, l19, l22, n24, n25, n26, c27, n28⟩ := x
    obtain ⟨b15, r17, b18, r20, b21, r23, rfl⟩ := hmk
    replace h : rule_track_advance_c0x9xrule_standing_1x_b1 p0x0 p1x0 l16 l19 l22 n24 n25 n26 c27 n28 = some z1 := h
    unfold rule_track_advance_c0x9xrule_standing_1x_b1 at h
    refine ATodo.block<|tSR<|rM J J<|bndE h fun v29 e1 h=>t_call0 J (rule_track_due_c e1) (CoL.refl _) (.cons .p0 (.cons .p0 (.cons .p0 (.cons .p0 .nil)))) J J<|rA J J<|rN<|tS<|tSR<|rM J J<|rM J J<|ARun.qv (q_min J J) J<|ARun.qv (q_geq J J) J<|rN<|ATodo.cond_d J (fun hc=>?_) (fun hc=>?_)
    · refine have h := iteT hc h; ATodo.ret<|have h := outL h hA1; ?_
      obtain rfl := Option.some.inj h
      exact ImpX.here ⟨_,.nil,_,.cons .p0 (.cons .p0 (.cons .p0 (.cons .p0 .nil))),⟨b15,r17,b18,r20,b21,r23,J,J⟩⟩
    · refine have h := iteF hc h; tK<|tSR<|rM J J<|rM J J<|bndE h fun v30 e2 h=>t_call6 J (rule_track_drop_c e2) (CoL.refl _) (.cons .p0 (.cons .p0 (.cons .p0 (.cons .p0 .nil)))) (fun _ _ _ _ _ _=>J) J fun b31 r32 b33 r34 b35 r36=>rN<|tSR<|rM J J<|rM J J<|bndE h fun v37 e3 h=>t_call6 J (rule_track_update_c e3) (CoL.refl _) (.cons .p0 (.cons .p0 (.cons .p0 (.cons .p0 .nil)))) (fun _ _ _ _ _ _=>J) J fun b38 r39 b40 r41 b42 r43=>rN<|tSR<|rM J J<|t_call0 J (rule_track_turn_c (J : rule_track_turn (⟨p0x0.rule_,v37.window_,v37.least_,v37.most_,v37.sum_,v37.state_,v37.since_,v37.firing_,v37.began_⟩ : Rule_track) = _)) (CoL.refl _) (.cons .p0 (.cons .p0 (.cons .p0 (.cons .p0 .nil)))) J J<|rM J J<|ARun.qv (q_eql J J) J<|rN<|ATodo.cut (fun σ'=>∃ (c44 : Bool) (n45 : Int),rule_track_advance_c0x9xrule_standing_1x_j1 v37 c44 n45 = some z1 ∧ σ' = ⟨47,[(0,.ptr b_0 0),(1,I p1x0)],[(b_0,.cells [.rptr [.str p0x0.rule_.Key,.str p0x0.rule_.Metric,I p0x0.rule_.Agg,I p0x0.rule_.Long,.bool p0x0.rule_.Above,I p0x0.rule_.On,I p0x0.rule_.Off,I p0x0.rule_.Hold,I p0x0.rule_.Rest,I p0x0.rule_.Empty],.sl 2 b38 r39.length v37.window_.length,.sl 2 b40 r41.length v37.least_.length,.sl 2 b42 r43.length v37.most_.length,I v37.sum_,I v37.state_,I v37.since_,.bool c44,I n45,.func (.func 144) []]),(b38,aE5 (r39 ++ v37.window_)),(b40,aE5 (r41 ++ v37.least_)),(b42,aE5 (r43 ++ v37.most_))]⟩) ?_ ?_
      · refine ATodo.cond_d J (fun hc=>?_) (fun hc=>?_)
        · refine have h := iteT hc h; tSR<|rM J J<|rM J J<|ARun.qv (q_nilCheck_ptr J) J<|rF J J J<|rL J J .p0 J J<|ARun.qv (q_not J) J<|ARun.qv (q_nilCheck_ptr J) J<|rF J J J<|n_store_ptr J J J J .p0 J J<|rN<|tS<|tSR<|rM J J<|ARun.qv (q_nilCheck_ptr J) J<|rF J J J<|rL J J .p0 J J<|rN<|ATodo.cut (fun σ'=>∃ (n46 : Int),rule_track_advance_c0x9xrule_standing_1x_j2 v37 n46 = some z1 ∧ σ' = ⟨47,[(0,.ptr b_0 0),(1,I p1x0),(4,I v29)],[(b_0,.cells [.rptr [.str p0x0.rule_.Key,.str p0x0.rule_.Metric,I p0x0.rule_.Agg,I p0x0.rule_.Long,.bool p0x0.rule_.Above,I p0x0.rule_.On,I p0x0.rule_.Off,I p0x0.rule_.Hold,I p0x0.rule_.Rest,I p0x0.rule_.Empty],.sl 2 b38 r39.length v37.window_.length,.sl 2 b40 r41.length v37.least_.length,.sl 2 b42 r43.length v37.most_.length,I v37.sum_,I v37.state_,I v37.since_,.bool (!v37.firing_),I n46,.func (.func 144) []]),(b38,aE5 (r39 ++ v37.window_)),(b40,aE5 (r41 ++ v37.least_)),(b42,aE5 (r43 ++ v37.most_))]⟩) ?_ ?_
          · refine ATodo.cond J (fun hc=>?_) (fun hc=>?_)
            · exact have h := iteT hc h; tR<|rM J J<|rM J J<|ARun.qv (q_nilCheck_ptr J) J<|rF J J J<|n_store_ptr J J J J .p0 J J<|rN<|ATodo.stop<|ImpX.lq [0,0,0,0] ⟨v29,h,J⟩ J J
            · exact have h := iteFb hc h; tK<|ATodo.stop<|ImpX.lq [0,0,0,0] ⟨v37.began_,h,J⟩ J J
          · rintro σ' ⟨n46, h, rfl⟩
            unfold rule_track_advance_c0x9xrule_standing_1x_j2 at h
            exact ATodo.regionM (id := 8) (A := [0,1,3,7,0,0,32,96,224,511]) 9 mixed J (by kernel_rfl) (by kernel_rfl)<|AM.qv (q_move J) J<|AM.qv (q_nilCheck_ptr J) J<|AM.qv (n_field_ptr J J) J<|AM.qv (q_load_ptr J J .p0 J) J<|AM.qv (q_move J) J<|AM.qv (q_move J) J<|AM.qv (q_nilCheck_ptr J) J<|AM.qv (n_field_ptr J J) J<|AM.qv (q_load_ptr J J .p0 J) J<|AM.nil<|r_callvp J J (rule_standing_1x_c J) (CoL.refl _) J<|rN<|ATodo.stop<|ImpX.lq [0,0,0,0] ⟨!v37.firing_,n46,h,J⟩ J J
        · exact have h := iteF hc h; tK<|ATodo.stop<|ImpX.lq [0,0,0,0] ⟨v37.firing_,v37.began_,h,J⟩ J J
      · rintro σ' ⟨c44, n45, h, rfl⟩
        unfold rule_track_advance_c0x9xrule_standing_1x_j1 at h
        refine ATodo.blk<|ATodo.stop<|?_
        obtain rfl := Option.some.inj h
        exact hJ1 _ _ J<|ImpX.lq [0,0,0,0] ⟨b38,r39,b40,r41,b42,r43,J⟩ J J

theorem rule_track_put_c [GI : GTab] {b_0 : Bk} {b_0x1 : Bk} {r_0x1 : List Rule_sample} {b_0x2 : Bk} {r_0x2 : List Rule_sample} {b_0x3 : Bk} {r_0x3 : List Rule_sample} {f_0x9F : Fn} {f_0x9C : List AV} {p0x0 : Rule_track} {p1x0 : Rule_sample} {r : Rule_track} (h : rule_track_put p0x0 p1x0 = some r) : ACall Tryz.prog 127 [.ptr b_0 0,Rule_sample.av p1x0] [(b_0,.cells [.rptr [.str p0x0.rule_.Key,.str p0x0.rule_.Metric,I p0x0.rule_.Agg,I p0x0.rule_.Long,.bool p0x0.rule_.Above,I p0x0.rule_.On,I p0x0.rule_.Off,I p0x0.rule_.Hold,I p0x0.rule_.Rest,I p0x0.rule_.Empty],.sl 2 b_0x1 r_0x1.length p0x0.window_.length,.sl 2 b_0x2 r_0x2.length p0x0.least_.length,.sl 2 b_0x3 r_0x3.length p0x0.most_.length,I p0x0.sum_,I p0x0.state_,I p0x0.since_,.bool p0x0.firing_,I p0x0.began_,.func f_0x9F f_0x9C]),(b_0x1,aE5 (r_0x1 ++ p0x0.window_)),(b_0x2,aE5 (r_0x2 ++ p0x0.least_)),(b_0x3,aE5 (r_0x3 ++ p0x0.most_))] (T6 (fun c_0x1 s_0x1 c_0x2 s_0x2 c_0x3 s_0x3=>[(b_0,.cells [.rptr [.str p0x0.rule_.Key,.str p0x0.rule_.Metric,I p0x0.rule_.Agg,I p0x0.rule_.Long,.bool p0x0.rule_.Above,I p0x0.rule_.On,I p0x0.rule_.Off,I p0x0.rule_.Hold,I p0x0.rule_.Rest,I p0x0.rule_.Empty],.sl 2 c_0x1 s_0x1.length r.window_.length,.sl 2 c_0x2 s_0x2.length r.least_.length,.sl 2 c_0x3 s_0x3.length r.most_.length,I r.sum_,I r.state_,I r.since_,.bool r.firing_,I r.began_,.func f_0x9F f_0x9C]),(c_0x1,aE5 (s_0x1 ++ r.window_)),(c_0x2,aE5 (s_0x2 ++ r.least_)),(c_0x3,aE5 (s_0x3 ++ r.most_))]) (fun c_0x1 s_0x1 c_0x2 s_0x2 c_0x3 s_0x3=>.tup [])) := by
  unfold rule_track_put at h
  refine ACall.lessH ?_
  refine ACall.bodyN Tryz.func127 J Tryz.ntmps127 Tryz.results127 J J ?_
  refine tSR<|n_box J J J J fun b1=>rN<|tSR<|rM J J<|rF J J J<|rL J J .p0 J J<|bndE h fun v2 e1 h=>t_call6 J (rule_track_drop_c e1) (CoL.refl _) (.cons .p1 (.cons .p1 (.cons .p1 (.cons .p1 .nil)))) (fun _ _ _ _ _ _=>J) J fun b3 r4 b5 r6 b7 r8=>rN<|tS<|bndE h fun l9 e2 h=>ATodo.regionT (id := 2) (A := [0,0,2,6,14,0,32,126,255,511,1023]) (H0 := [(b3,aE5 (r4 ++ v2.window_))]) (HH := fun β=>[((β 7),aE5 ((preO b3 (β 7) r4) ++ l9)),(b_0,.cells [.rptr [.str p0x0.rule_.Key,.str p0x0.rule_.Metric,I p0x0.rule_.Agg,I p0x0.rule_.Long,.bool p0x0.rule_.Above,I p0x0.rule_.On,I p0x0.rule_.Off,I p0x0.rule_.Hold,I p0x0.rule_.Rest,I p0x0.rule_.Empty],.sl 2 b3 r4.length v2.window_.length,.sl 2 b5 r6.length v2.least_.length,.sl 2 b7 r8.length v2.most_.length,I v2.sum_,I v2.state_,I v2.since_,.bool v2.firing_,I v2.began_,.func f_0x9F f_0x9C]),(b5,aE5 (r6 ++ v2.least_)),(b7,aE5 (r8 ++ v2.most_)),(b1,.cells [I p1x0.at_,I p1x0.value_])]) 8 mixed J (by kernel_rfl) (by kernel_rfl) [⟨none,some 7,[],fun _=>(b3,aE5 (r4 ++ v2.window_)),none,[]⟩,⟨some 7,none,[],fun b=>(b,aE5 ((preO b3 b r4) ++ l9)),none,[]⟩] [7] J (by kernel_rfl) J (.cons .p1 .nil) (fun _=>J)<|AT.am 7 J J<|AM.qv (q_move J) J<|AM.qv (q_move J) J<|AM.qv (q_nilCheck_ptr J) J<|AM.qv (n_field_ptr J J) J<|AM.qv (q_load_ptr J J .p0 J) J<|AM.qv (q_load_ptr_all J J .p3 J) J<|AM.buildSliceL (xs := ([p1x0] : List Rule_sample).map Rule_sample.av) J J J J J J<|AM.nil<|AT.runD (V := fun b=>.sl 2 b (preO b3 b r4).length l9.length) (Ti := [(b3,aE5 (r4 ++ v2.window_))]) (Pi := fun b=>[(b,aE5 ((preO b3 b r4) ++ l9))]) (fun _=>J) (fun _=>J) (fun _ _=>J) J (fun _=>J) J J J ?_ ?_
  · exact t_appendO (g := Rule_sample.av) (Ps := r4) (Xs := v2.window_) J J J J J J J J (.list _) e2 (fun _=>.p0) fun b10=>ARun.nil ⟨b10,_,J,J⟩
  refine AT.nilN (fun _=>J) fun β=>?_
  generalize β 7 = b10
  clear β
  refine ARun.qv (q_nilCheck_ptr J) J<|rF J J J<|n_store_ptr J J J J .p1 J J<|rN<|tS<|ATodo.regionM (id := 3) (A := [0,1,3,7,0,16,63,127,255,511]) 9 mixed J (by kernel_rfl) (by kernel_rfl)<|AM.qv (q_move J) J<|AM.qv (q_nilCheck_ptr J) J<|AM.qv (n_field_ptr J J) J<|AM.qv (q_load_ptr J J .p1 J) J<|AM.qv (n_field_ptr J J) J<|AM.qv (q_load_ptr J J .p4 J) J<|AM.qv (q_addw J J) J<|AM.qv (q_nilCheck_ptr J) J<|AM.qv (n_field_ptr J J) J<|AM.nil<|n_store_ptr J J J J .p1 J J<|rN<|tS<|tSR<|rM J J<|ARun.qv (q_nilCheck_ptr J) J<|rF J J J<|rL J J .p1 J J<|ARun.qv (q_len_sl J) J<|rA J J<|rN<|ATodo.block<|ATodo.loopI (fun x : (List Rule_sample) × Int=>rule_track_put_b1 p0x0 p1x0 v2 l9 x.1 x.2) (fun x σ'=>σ' = ⟨119,[(0,.ptr b_0 0),(3,.ptr b1 0),(4,I x.2)],[(b_0,.cells [.rptr [.str p0x0.rule_.Key,.str p0x0.rule_.Metric,I p0x0.rule_.Agg,I p0x0.rule_.Long,.bool p0x0.rule_.Above,I p0x0.rule_.On,I p0x0.rule_.Off,I p0x0.rule_.Hold,I p0x0.rule_.Rest,I p0x0.rule_.Empty],.sl 2 b10 (preO b3 b10 r4).length l9.length,.sl 2 b5 r6.length x.1.length,.sl 2 b7 r8.length v2.most_.length,I (w64 (v2.sum_ + p1x0.value_)),I v2.state_,I v2.since_,.bool v2.firing_,I v2.began_,.func f_0x9F f_0x9C]),(b10,aE5 ((preO b3 b10 r4) ++ l9)),(b5,aE5 (r6 ++ x.1)),(b7,aE5 (r8 ++ v2.most_)),(b1,.cells [I p1x0.at_,I p1x0.value_])]⟩) h ?_ ?_
  · exact ImpX.lq [1,0,0,0,0] J J J
  · intro x z1 σ' J1 hmk h hJ1 hA1
    obtain ⟨l13, n14⟩ := x
    obtain rfl := hmk
    replace h : rule_track_put_b1 p0x0 p1x0 v2 l9 l13 n14 = some z1 := h
    unfold rule_track_put_b1 at h
    refine tS<|tS<|ATodo.cut (fun σ'=>∃ (c15 : Bool),rule_track_put_j1 p0x0 p1x0 v2 l9 l13 n14 c15 = some z1 ∧ σ' = ⟨119,[(0,.ptr b_0 0),(3,.ptr b1 0),(4,I n14),(49,.bool c15)],[(b_0,.cells [.rptr [.str p0x0.rule_.Key,.str p0x0.rule_.Metric,I p0x0.rule_.Agg,I p0x0.rule_.Long,.bool p0x0.rule_.Above,I p0x0.rule_.On,I p0x0.rule_.Off,I p0x0.rule_.Hold,I p0x0.rule_.Rest,I p0x0.rule_.Empty],.sl 2 b10 (preO b3 b10 r4).length l9.length,.sl 2 b5 r6.length l13.length,.sl 2 b7 r8.length v2.most_.length,I (w64 (v2.sum_ + p1x0.value_)),I v2.state_,I v2.since_,.bool v2.firing_,I v2.began_,.func f_0x9F f_0x9C]),(b10,aE5 ((preO b3 b10 r4) ++ l9)),(b5,aE5 (r6 ++ l13)),(b7,aE5 (r8 ++ v2.most_)),(b1,.cells [I p1x0.at_,I p1x0.value_])]⟩) ?_ ?_
    · refine ATodo.regionM (id := 5) (A := [0,1,3,7,15,31,63,7,135,511,1023,2047,7,4103,16383,32767]) 16 mixed J (by kernel_rfl) (by kernel_rfl)<|AM.qv (q_move J) J<|AM.qv (q_gtr J J) J<|AM.qv (q_move J) J<|AM.guard_dt J J J (fun hc=>?_) (fun hc=>?_)
      · exact have h := iteT hc h; AM.qv (q_move J) J<|AM.guard_yes J J J<|AM.qv (q_nilCheck_ptr J) J<|AM.guard_yes J J J<|AM.qv (n_field_ptr J J) J<|AM.guard_yes J J J<|AM.qv (q_load_ptr J J .p0 J) J<|AM.guard_yes J J J<|AM.qv (q_move J) J<|AM.guard_yes J J J<|AM.qv (q_subw J J) J<|AM.guard_yes J J J<|bndE h fun v16 e3 h=>AM.qv (t_index_dq (Ps := r6) (Xs := l13) J J J e3) J<|AM.guard_yes J J J<|AM.qv (t_field_aptr J J) J<|AM.guard_yes J J J<|AM.qv (t_load_dq (g := Rule_sample.av) (Ps := r6) (Xs := l13) J J .p2 e3 J) J<|AM.guard_yes J J J<|AM.qv (n_field_ptr J J) J<|AM.guard_yes J J J<|AM.qv (q_load_ptr J J .p4 J) J<|AM.guard_yes J J J<|AM.qv (q_geq J J) J<|AM.qv (q_pick_t J J) J<|AM.nil<|rN<|ATodo.stop<|ImpX.lq [0,0,0,0,0] ⟨decide (p1x0.value_ ≤ v16.value_),h,J⟩ J J
      · exact have h := iteF hc h; AM.guard_no J J J J<|AM.guard_no J J J J<|AM.guard_no J J J J<|AM.guard_no J J J J<|AM.guard_no J J J J<|AM.guard_no J J J J<|AM.guard_no J J J J<|AM.guard_no J J J J<|AM.guard_no J J J J<|AM.guard_no J J J J<|AM.guard_no J J J J<|AM.qv (q_pick_f J J) J<|AM.nil<|rN<|ATodo.stop<|ImpX.lq [0,0,0,0,0] ⟨false,h,J⟩ J J
    · rintro σ' ⟨c15, h, rfl⟩
      unfold rule_track_put_j1 at h
      refine ATodo.cond J (fun hc=>?_) (fun hc=>?_)
      · refine have h := iteT hc h; tK<|tS<|ATodo.block<|tR<|rM J J<|rM J J<|ARun.qv (q_nilCheck_ptr J) J<|rF J J J<|rL J J .p0 J J<|rM J J<|ARun.qv (q_subw J J) J<|bndE h fun l17 e4 h=>ARun.qv (t_slice_dq (Ps := r6) (Xs := l13) J J .none (.some _ _ _ J) J J e4) J<|ARun.qv (q_nilCheck_ptr J) J<|rF J J J<|n_store_ptr J J J J .p0 J J<|ARun.ghost<|ImpX.dqTake (g := Rule_sample.av) (Ps := r6) (Xs := l13) e4 .p2<|ImpX.here<|rN<|ATodo.blk<|tR<|rM J J<|ARun.qv (q_subw J J) J<|rA J J<|rN<|ATodo.stop<|?_
        obtain rfl := Option.some.inj h
        exact hJ1 _ _ J<|ImpX.lq [0,0,0,0,0] J J J
      · refine have h := iteFb hc h; ATodo.exit J<|have h := outL h hA1; ?_
        unfold rule_track_put_k4 at h
        refine tS<|bndE h fun l18 e5 h=>ATodo.regionT (id := 8) (A := [0,0,2,6,14,0,32,126,255,511,1023]) (H0 := [(b5,aE5 (r6 ++ l13))]) (HH := fun β=>[((β 7),aE5 ((preO b5 (β 7) r6) ++ l18)),(b_0,.cells [.rptr [.str p0x0.rule_.Key,.str p0x0.rule_.Metric,I p0x0.rule_.Agg,I p0x0.rule_.Long,.bool p0x0.rule_.Above,I p0x0.rule_.On,I p0x0.rule_.Off,I p0x0.rule_.Hold,I p0x0.rule_.Rest,I p0x0.rule_.Empty],.sl 2 b10 (preO b3 b10 r4).length l9.length,.sl 2 b5 r6.length l13.length,.sl 2 b7 r8.length v2.most_.length,I (w64 (v2.sum_ + p1x0.value_)),I v2.state_,I v2.since_,.bool v2.firing_,I v2.began_,.func f_0x9F f_0x9C]),(b10,aE5 ((preO b3 b10 r4) ++ l9)),(b7,aE5 (r8 ++ v2.most_)),(b1,.cells [I p1x0.at_,I p1x0.value_])]) 8 mixed J (by kernel_rfl) (by kernel_rfl) [⟨none,some 7,[],fun _=>(b5,aE5 (r6 ++ l13)),none,[]⟩,⟨some 7,none,[],fun b=>(b,aE5 ((preO b5 b r6) ++ l18)),none,[]⟩] [7] J (by kernel_rfl) J (.cons .p2 .nil) (fun _=>J)<|AT.am 7 J J<|AM.qv (q_move J) J<|AM.qv (q_move J) J<|AM.qv (q_nilCheck_ptr J) J<|AM.qv (n_field_ptr J J) J<|AM.qv (q_load_ptr J J .p0 J) J<|AM.qv (q_load_ptr_all J J .p3 J) J<|AM.buildSliceL (xs := ([p1x0] : List Rule_sample).map Rule_sample.av) J J J J J J<|AM.nil<|AT.runD (V := fun b=>.sl 2 b (preO b5 b r6).length l18.length) (Ti := [(b5,aE5 (r6 ++ l13))]) (Pi := fun b=>[(b,aE5 ((preO b5 b r6) ++ l18))]) (fun _=>J) (fun _=>J) (fun _ _=>J) J (fun _=>J) J J J ?_ ?_
        · exact t_appendO (g := Rule_sample.av) (Ps := r6) (Xs := l13) J J J J J J J J (.list _) e5 (fun _=>.p0) fun b19=>ARun.nil ⟨b19,_,J,J⟩
        refine AT.nilN (fun _=>J) fun β=>?_
        generalize β 7 = b19
        clear β
        refine ARun.qv (q_nilCheck_ptr J) J<|rF J J J<|n_store_ptr J J J J .p1 J J<|rN<|tS<|tSR<|rM J J<|ARun.qv (q_nilCheck_ptr J) J<|rF J J J<|rL J J .p1 J J<|ARun.qv (q_len_sl J) J<|rA J J<|rN<|ATodo.block<|ATodo.loopI (fun x : (List Rule_sample) × Int=>rule_track_put_b2 p0x0 p1x0 v2 l9 l18 x.1 x.2) (fun x σ'=>σ' = ⟨119,[(0,.ptr b_0 0),(3,.ptr b1 0),(5,I x.2)],[(b_0,.cells [.rptr [.str p0x0.rule_.Key,.str p0x0.rule_.Metric,I p0x0.rule_.Agg,I p0x0.rule_.Long,.bool p0x0.rule_.Above,I p0x0.rule_.On,I p0x0.rule_.Off,I p0x0.rule_.Hold,I p0x0.rule_.Rest,I p0x0.rule_.Empty],.sl 2 b10 (preO b3 b10 r4).length l9.length,.sl 2 b19 (preO b5 b19 r6).length l18.length,.sl 2 b7 r8.length x.1.length,I (w64 (v2.sum_ + p1x0.value_)),I v2.state_,I v2.since_,.bool v2.firing_,I v2.began_,.func f_0x9F f_0x9C]),(b10,aE5 ((preO b3 b10 r4) ++ l9)),(b19,aE5 ((preO b5 b19 r6) ++ l18)),(b7,aE5 (r8 ++ x.1)),(b1,.cells [I p1x0.at_,I p1x0.value_])]⟩) h ?_ ?_
        · exact ImpX.lq [1,1,0,0,0] J J J
        · intro x z2 σ' J2 hmk h hJ2 hA2
          obtain ⟨l22, n23⟩ := x
          obtain rfl := hmk
          replace h : rule_track_put_b2 p0x0 p1x0 v2 l9 l18 l22 n23 = some z2 := h
          unfold rule_track_put_b2 at h
          refine tS<|tS<|ATodo.cut (fun σ'=>∃ (c24 : Bool),rule_track_put_j2 p0x0 p1x0 v2 l9 l18 l22 n23 c24 = some z2 ∧ σ' = ⟨119,[(0,.ptr b_0 0),(3,.ptr b1 0),(5,I n23),(92,.bool c24)],[(b_0,.cells [.rptr [.str p0x0.rule_.Key,.str p0x0.rule_.Metric,I p0x0.rule_.Agg,I p0x0.rule_.Long,.bool p0x0.rule_.Above,I p0x0.rule_.On,I p0x0.rule_.Off,I p0x0.rule_.Hold,I p0x0.rule_.Rest,I p0x0.rule_.Empty],.sl 2 b10 (preO b3 b10 r4).length l9.length,.sl 2 b19 (preO b5 b19 r6).length l18.length,.sl 2 b7 r8.length l22.length,I (w64 (v2.sum_ + p1x0.value_)),I v2.state_,I v2.since_,.bool v2.firing_,I v2.began_,.func f_0x9F f_0x9C]),(b10,aE5 ((preO b3 b10 r4) ++ l9)),(b19,aE5 ((preO b5 b19 r6) ++ l18)),(b7,aE5 (r8 ++ l22)),(b1,.cells [I p1x0.at_,I p1x0.value_])]⟩) ?_ ?_
          · refine ATodo.regionM (id := 10) (A := [0,1,3,7,15,31,63,7,135,511,1023,2047,7,4103,16383,32767]) 16 mixed J (by kernel_rfl) (by kernel_rfl)<|AM.qv (q_move J) J<|AM.qv (q_gtr J J) J<|AM.qv (q_move J) J<|AM.guard_dt J J J (fun hc=>?_) (fun hc=>?_)
            · exact have h := iteT hc h; AM.qv (q_move J) J<|AM.guard_yes J J J<|AM.qv (q_nilCheck_ptr J) J<|AM.guard_yes J J J<|AM.qv (n_field_ptr J J) J<|AM.guard_yes J J J<|AM.qv (q_load_ptr J J .p0 J) J<|AM.guard_yes J J J<|AM.qv (q_move J) J<|AM.guard_yes J J J<|AM.qv (q_subw J J) J<|AM.guard_yes J J J<|bndE h fun v25 e6 h=>AM.qv (t_index_dq (Ps := r8) (Xs := l22) J J J e6) J<|AM.guard_yes J J J<|AM.qv (t_field_aptr J J) J<|AM.guard_yes J J J<|AM.qv (t_load_dq (g := Rule_sample.av) (Ps := r8) (Xs := l22) J J .p3 e6 J) J<|AM.guard_yes J J J<|AM.qv (n_field_ptr J J) J<|AM.guard_yes J J J<|AM.qv (q_load_ptr J J .p4 J) J<|AM.guard_yes J J J<|AM.qv (q_leq J J) J<|AM.qv (q_pick_t J J) J<|AM.nil<|rN<|ATodo.stop<|ImpX.lq [0,0,0,0,0] ⟨decide (v25.value_ ≤ p1x0.value_),h,J⟩ J J
            · exact have h := iteF hc h; AM.guard_no J J J J<|AM.guard_no J J J J<|AM.guard_no J J J J<|AM.guard_no J J J J<|AM.guard_no J J J J<|AM.guard_no J J J J<|AM.guard_no J J J J<|AM.guard_no J J J J<|AM.guard_no J J J J<|AM.guard_no J J J J<|AM.guard_no J J J J<|AM.qv (q_pick_f J J) J<|AM.nil<|rN<|ATodo.stop<|ImpX.lq [0,0,0,0,0] ⟨false,h,J⟩ J J
          · rintro σ' ⟨c24, h, rfl⟩
            unfold rule_track_put_j2 at h
            refine ATodo.cond J (fun hc=>?_) (fun hc=>?_)
            · refine have h := iteT hc h; tK<|tS<|ATodo.block<|tR<|rM J J<|rM J J<|ARun.qv (q_nilCheck_ptr J) J<|rF J J J<|rL J J .p0 J J<|rM J J<|ARun.qv (q_subw J J) J<|bndE h fun l26 e7 h=>ARun.qv (t_slice_dq (Ps := r8) (Xs := l22) J J .none (.some _ _ _ J) J J e7) J<|ARun.qv (q_nilCheck_ptr J) J<|rF J J J<|n_store_ptr J J J J .p0 J J<|ARun.ghost<|ImpX.dqTake (g := Rule_sample.av) (Ps := r8) (Xs := l22) e7 .p3<|ImpX.here<|rN<|ATodo.blk<|tR<|rM J J<|ARun.qv (q_subw J J) J<|rA J J<|rN<|ATodo.stop<|?_
              obtain rfl := Option.some.inj h
              exact hJ2 _ _ J<|ImpX.lq [0,0,0,0,0] J J J
            · refine have h := iteFb hc h; ATodo.exit J<|have h := outL h hA2; ?_
              unfold rule_track_put_k3 at h
              refine tS<|bndE h fun l27 e8 h=>ATodo.regionT (id := 13) (A := [0,0,2,6,14,0,32,126,255,511,1023]) (H0 := [(b7,aE5 (r8 ++ l22))]) (HH := fun β=>[((β 7),aE5 ((preO b7 (β 7) r8) ++ l27)),(b_0,.cells [.rptr [.str p0x0.rule_.Key,.str p0x0.rule_.Metric,I p0x0.rule_.Agg,I p0x0.rule_.Long,.bool p0x0.rule_.Above,I p0x0.rule_.On,I p0x0.rule_.Off,I p0x0.rule_.Hold,I p0x0.rule_.Rest,I p0x0.rule_.Empty],.sl 2 b10 (preO b3 b10 r4).length l9.length,.sl 2 b19 (preO b5 b19 r6).length l18.length,.sl 2 b7 r8.length l22.length,I (w64 (v2.sum_ + p1x0.value_)),I v2.state_,I v2.since_,.bool v2.firing_,I v2.began_,.func f_0x9F f_0x9C]),(b10,aE5 ((preO b3 b10 r4) ++ l9)),(b19,aE5 ((preO b5 b19 r6) ++ l18)),(b1,.cells [I p1x0.at_,I p1x0.value_])]) 8 mixed J (by kernel_rfl) (by kernel_rfl) [⟨none,some 7,[],fun _=>(b7,aE5 (r8 ++ l22)),none,[]⟩,⟨some 7,none,[],fun b=>(b,aE5 ((preO b7 b r8) ++ l27)),none,[]⟩] [7] J (by kernel_rfl) J (.cons .p3 .nil) (fun _=>J)<|AT.am 7 J J<|AM.qv (q_move J) J<|AM.qv (q_move J) J<|AM.qv (q_nilCheck_ptr J) J<|AM.qv (n_field_ptr J J) J<|AM.qv (q_load_ptr J J .p0 J) J<|AM.qv (q_load_ptr_all J J .p3 J) J<|AM.buildSliceL (xs := ([p1x0] : List Rule_sample).map Rule_sample.av) J J J J J J<|AM.nil<|AT.runD (V := fun b=>.sl 2 b (preO b7 b r8).length l27.length) (Ti := [(b7,aE5 (r8 ++ l22))]) (Pi := fun b=>[(b,aE5 ((preO b7 b r8) ++ l27))]) (fun _=>J) (fun _=>J) (fun _ _=>J) J (fun _=>J) J J J ?_ ?_
              · exact t_appendO (g := Rule_sample.av) (Ps := r8) (Xs := l22) J J J J J J J J (.list _) e8 (fun _=>.p0) fun b28=>ARun.nil ⟨b28,_,J,J⟩
              refine AT.nilN (fun _=>J) fun β=>?_
              generalize β 7 = b28
              clear β
              refine ARun.qv (q_nilCheck_ptr J) J<|rF J J J<|n_store_ptr J J J J .p1 J J<|rN<|tR<|rM J J<|rF J J J<|rL J J .p4 J J<|bndE h fun v29 e9 h=>t_call6 J (rule_track_update_c e9) (CoL.refl _) (.cons .p1 (.cons .p1 (.cons .p1 (.cons .p0 .nil)))) (fun _ _ _ _ _ _=>J) J fun b30 r31 b32 r33 b34 r35=>rN<|ATodo.nil<|?_
              obtain rfl := Option.some.inj h
              exact ImpX.here ⟨_,.nil,_,.cons .p0 (.cons .p0 (.cons .p0 (.cons .p0 .nil))),⟨b30,r31,b32,r33,b34,r35,J,J⟩⟩

theorem rule_standing_c [GI : GTab] {p0x0 : Rule} {p1x0 : List Sample} {p2x0 : Str} {p3x0 : Int} {r : Rule_track} (h : rule_standing p0x0 p1x0 p2x0 p3x0 = some r) : ACall Tryz.prog 97 [.rptr [.str p0x0.Key,.str p0x0.Metric,I p0x0.Agg,I p0x0.Long,.bool p0x0.Above,I p0x0.On,I p0x0.Off,I p0x0.Hold,I p0x0.Rest,I p0x0.Empty],lE3 p1x0,.str p2x0,I p3x0] [] (T7 (fun d_0 d_0x1 t_0x1 d_0x2 t_0x2 d_0x3 t_0x3=>[(d_0,.cells [.rptr [.str p0x0.Key,.str p0x0.Metric,I p0x0.Agg,I p0x0.Long,.bool p0x0.Above,I p0x0.On,I p0x0.Off,I p0x0.Hold,I p0x0.Rest,I p0x0.Empty],.sl 2 d_0x1 t_0x1.length r.window_.length,.sl 2 d_0x2 t_0x2.length r.least_.length,.sl 2 d_0x3 t_0x3.length r.most_.length,I r.sum_,I r.state_,I r.since_,.bool r.firing_,I r.began_,.func (.func 144) []]),(d_0x1,aE5 (t_0x1 ++ r.window_)),(d_0x2,aE5 (t_0x2 ++ r.least_)),(d_0x3,aE5 (t_0x3 ++ r.most_))]) (fun d_0 d_0x1 t_0x1 d_0x2 t_0x2 d_0x3 t_0x3=>.ptr d_0 0)) := by
  unfold rule_standing at h
  refine ACall.lessH ?_
  refine ACall.bodyN Tryz.func97 J Tryz.ntmps97 Tryz.results97 J J ?_
  refine tSR<|rA J J<|rN<|tSR<|rM J J<|bndE h fun v1 e1 h=>t_call7 J (rule_newTrack_c e1) (CoL.refl _) .nil (fun _ _ _ _ _ _ _=>J) J fun b2 b3 r4 b5 r6 b7 r8=>rA J J<|rN<|tS<|tSR<|rM J J<|rM J J<|ARun.qv (q_nilCheck_rptr J) J<|ARun.qv (n_field_rptr J J) J<|ARun.qv (q_load_rptr J J J) J<|rM J J<|bndE h fun v9 e2 h=>t_call1 J (rule_seen_c e2) (CoL.refl _) .nil (fun _=>J) J fun b10=>ARun.qv (t_len_sl J) J<|rM J J<|rN<|ATodo.block<|ATodo.loopI (fun x : (List Rule_sample) × (List Rule_sample) × (List Rule_sample) × Int × Int × Int × Bool × Int × Int=>rule_standing_b1 p0x0 p3x0 v9 x.1 x.2.1 x.2.2.1 x.2.2.2.1 x.2.2.2.2.1 x.2.2.2.2.2.1 x.2.2.2.2.2.2.1 x.2.2.2.2.2.2.2.1 x.2.2.2.2.2.2.2.2) (fun x σ'=>∃ (b26 : Bk) (r28 : List Rule_sample) (b29 : Bk) (r31 : List Rule_sample) (b32 : Bk) (r34 : List Rule_sample),σ' = ⟨48,[(3,I p3x0),(9,.ptr b2 0),(20,.sl 2 b10 0 v9.length),(21,I (v9.length : Int)),(22,I x.2.2.2.2.2.2.2.2)],[(b2,.cells [.rptr [.str p0x0.Key,.str p0x0.Metric,I p0x0.Agg,I p0x0.Long,.bool p0x0.Above,I p0x0.On,I p0x0.Off,I p0x0.Hold,I p0x0.Rest,I p0x0.Empty],.sl 2 b26 r28.length x.1.length,.sl 2 b29 r31.length x.2.1.length,.sl 2 b32 r34.length x.2.2.1.length,I x.2.2.2.1,I x.2.2.2.2.1,I x.2.2.2.2.2.1,.bool x.2.2.2.2.2.2.1,I x.2.2.2.2.2.2.2.1,.func (.func 144) []]),(b26,aE5 (r28 ++ x.1)),(b29,aE5 (r31 ++ x.2.1)),(b32,aE5 (r34 ++ x.2.2.1)),(b10,aE5 v9)]⟩) h ?_ ?_
  · exact ImpX.lq [1,1,1,1,0] ⟨b3,r4,b5,r6,b7,r8,J⟩ J J
  · intro x z1 σ' J1 hmk h hJ1 hA1
    obtain ⟨l27, l30, l33, n35, n36, n37, c38, n39, n40⟩ := x
    obtain ⟨b26, r28, b29, r31, b32, r34, rfl⟩ := hmk
    replace h : rule_standing_b1 p0x0 p3x0 v9 l27 l30 l33 n35 n36 n37 c38 n39 n40 = some z1 := h
    unfold rule_standing_b1 at h
    refine tSR<|ARun.qv (q_lss J J) J<|rN<|tS<|ATodo.cond_d J (fun hc=>?_) (fun hc=>?_)
    · refine have h := iteT hc h; tK<|tS<|ATodo.block<|tSR<|bndE h fun v41 e3 h=>ARun.qv (t_index_sl J J J e3) J<|ARun.qv (t_load_aptr_agg (g := Rule_sample.av) J J (.inl .p4) J e3 J) J<|n_alloc J J J J fun b42=>n_store_ptr J J J J .p0 J J<|rN<|tSR<|rF J J J<|rL J J .p0 J J<|rM J J<|ARun.qv (q_leq J J) J<|rN<|ATodo.cut (fun σ'=>∃ (b43 : Bk) (r45 : List Rule_sample) (b46 : Bk) (r48 : List Rule_sample) (b49 : Bk) (r51 : List Rule_sample) (l44 : List Rule_sample) (l47 : List Rule_sample) (l50 : List Rule_sample) (n52 : Int) (n53 : Int) (n54 : Int) (c55 : Bool) (n56 : Int),rule_standing_j1 n40 l44 l47 l50 n52 n53 n54 c55 n56 = some z1 ∧ σ' = ⟨48,[(3,I p3x0),(9,.ptr b2 0),(20,.sl 2 b10 0 v9.length),(21,I (v9.length : Int)),(22,I n40)],[(b2,.cells [.rptr [.str p0x0.Key,.str p0x0.Metric,I p0x0.Agg,I p0x0.Long,.bool p0x0.Above,I p0x0.On,I p0x0.Off,I p0x0.Hold,I p0x0.Rest,I p0x0.Empty],.sl 2 b43 r45.length l44.length,.sl 2 b46 r48.length l47.length,.sl 2 b49 r51.length l50.length,I n52,I n53,I n54,.bool c55,I n56,.func (.func 144) []]),(b43,aE5 (r45 ++ l44)),(b46,aE5 (r48 ++ l47)),(b49,aE5 (r51 ++ l50)),(b10,aE5 v9)]⟩) ?_ ?_
      · refine ATodo.cond_d J (fun hc=>?_) (fun hc=>?_)
        · exact have h := iteT hc h; tSR<|rM J J<|rF J J J<|rL J J .p0 J J<|bndE h fun v57 e4 h=>t_call6 J (rule_track_advance_c0x9xrule_standing_1x_c e4) (CoL.refl _) (.cons .p1 (.cons .p1 (.cons .p1 (.cons .p1 .nil)))) (fun _ _ _ _ _ _=>J) J fun b58 r59 b60 r61 b62 r63=>rN<|tR<|rM J J<|ARun.qv (q_load_ptr_all J J .p4 J) J<|bndE h fun v64 e5 h=>t_call6 J (rule_track_put_c e5) (CoL.refl _) (.cons .p0 (.cons .p0 (.cons .p0 (.cons .p0 .nil)))) (fun _ _ _ _ _ _=>J) J fun b65 r66 b67 r68 b69 r70=>rN<|ATodo.stop<|ImpX.lq [0,0,0,0,1] ⟨b65,r66,b67,r68,b69,r70,v64.window_,v64.least_,v64.most_,v64.sum_,v64.state_,v64.since_,v64.firing_,v64.began_,h,J⟩ J J
        · exact have h := iteF hc h; tK<|ATodo.stop<|ImpX.lq [1,1,1,1,1] ⟨b26,r28,b29,r31,b32,r34,l27,l30,l33,n35,n36,n37,c38,n39,h,J⟩ J J
      · rintro σ' ⟨b43, r45, b46, r48, b49, r51, l44, l47, l50, n52, n53, n54, c55, n56, h, rfl⟩
        unfold rule_standing_j1 at h
        refine ATodo.blk<|tR<|ARun.qv (q_addw J J) J<|rM J J<|rN<|ATodo.stop<|?_
        obtain rfl := Option.some.inj h
        exact hJ1 _ _ J<|ImpX.lq [0,0,0,0,0] ⟨b43,r45,b46,r48,b49,r51,J⟩ J J
    · refine have h := iteF hc h; ATodo.exit J<|have h := outL h hA1; ?_
      unfold rule_standing_k2 at h
      refine tSR<|rM J J<|rM J J<|bndE h fun v71 e6 h=>t_call6 J (rule_track_advance_c0x9xrule_standing_1x_c e6) (CoL.refl _) (.cons .p0 (.cons .p0 (.cons .p0 (.cons .p0 .nil)))) (fun _ _ _ _ _ _=>J) J fun b72 r73 b74 r75 b76 r77=>rN<|tSR<|rM J J<|rM J J<|bndE h fun v78 e7 h=>t_call6 J (rule_track_drop_c e7) (CoL.refl _) (.cons .p0 (.cons .p0 (.cons .p0 (.cons .p0 .nil)))) (fun _ _ _ _ _ _=>J) J fun b79 r80 b81 r82 b83 r84=>rN<|tSR<|rM J J<|rM J J<|bndE h fun v85 e8 h=>t_call6 J (rule_track_update_c e8) (CoL.refl _) (.cons .p0 (.cons .p0 (.cons .p0 (.cons .p0 .nil)))) (fun _ _ _ _ _ _=>J) J fun b86 r87 b88 r89 b90 r91=>rN<|tSR<|rM J J<|rA J J<|rN<|ATodo.ret<|?_
      obtain rfl := Option.some.inj h
      exact ImpX.here ⟨_,.cons (.tmp _ _ J) .nil,_,.cons .p0 (.cons .p0 (.cons .p0 (.cons .p0 .nil))),⟨b2,b86,r87,b88,r89,b90,r91,J,J⟩⟩

theorem rule_Value_1x_c [GI : GTab] {p0x0 : Int} {r : Fraction × Bool × Int} (h : rule_Value_1x p0x0 = r) : Pu Tryz.prog 98 [I p0x0] (.tup [Fraction.av r.1,.bool r.2.1,I r.2.2]) := by
  unfold rule_Value_1x at h
  refine ACall.bodyN Tryz.func98 J Tryz.ntmps98 Tryz.results98 J J ?_
  refine tSR<|n_alloc J J J J fun b1=>rA J J<|rA J J<|rN<|tSR<|rM J J<|ARun.qv (n_build J J J J J) J<|n_store_ptr J J J J .p0 J J<|rA J J<|rA J J<|rN<|ATodo.ret<|?_
  obtain rfl := h
  exact ImpX.here ⟨_,.cons (.all _ _ _ _ _ _ J .p0 TUnder.h TInfo.h J J) (.cons (.tmp _ _ J) (.cons (.tmp _ _ J) .nil)),J⟩

theorem base_Gcd_c [GI : GTab] {p0x0 : Int} {p1x0 : Int} {r : Int} (h : base_Gcd p0x0 p1x0 = some r) : Pu Tryz.prog 147 [I p0x0,I p1x0] (I r) := by
  unfold base_Gcd at h
  refine ACall.bodyN Tryz.func147 J Tryz.ntmps147 Tryz.results147 J J ?_
  refine tSR<|rA J J<|rN<|tS<|ATodo.block<|ATodo.loopI (fun x : Int × Int=>base_Gcd_b1 x.1 x.2) (fun x σ'=>σ' = ⟨12,[(0,I x.1),(1,I x.2)],[]⟩) h ?_ ?_
  · exact ImpX.lq [] J J J
  · intro x z1 σ' J1 hmk h hJ1 hA1
    obtain ⟨n3, n4⟩ := x
    obtain rfl := hmk
    replace h : base_Gcd_b1 n3 n4 = some z1 := h
    unfold base_Gcd_b1 at h
    refine tS<|tSR<|rM J J<|ARun.qv (q_neq J J) J<|rN<|ATodo.cond_d J (fun hc=>?_) (fun hc=>?_)
    · refine have h := iteT hc h; tK<|ATodo.block<|ATodo.regionM (id := 2) (A := [0,0,0,6,3,31]) 6 mixed J (by kernel_rfl) (by kernel_rfl)<|AM.qv (q_move J) J<|AM.qv (q_move J) J<|AM.qv (q_move J) J<|bndE h fun n5 e1 h=>AM.qv (t_remS J J e1) J<|AM.qv (q_assign J) J<|AM.qv (q_assign J) J<|AM.nil<|rN<|ATodo.blk<|ATodo.stop<|?_
      obtain rfl := Option.some.inj h
      exact hJ1 _ _ J<|ImpX.lq [] J J J
    · refine have h := iteF hc h; ATodo.exit J<|have h := outL h hA1; tSR<|rM J J<|rA J J<|rN<|ATodo.ret<|?_
      obtain rfl := Option.some.inj h
      exact ImpX.here ⟨_,.cons (.tmp _ _ J) .nil,J⟩

theorem base_Fraction_c [GI : GTab] {p0x0 : Int} {p1x0 : Int} {r : Fraction} (h : base_Fraction p0x0 p1x0 = some r) : Pu Tryz.prog 99 [I p0x0,I p1x0] (Fraction.av r) := by
  unfold base_Fraction at h
  refine ACall.bodyN Tryz.func99 J Tryz.ntmps99 Tryz.results99 J J ?_
  refine tSR<|n_alloc J J J J fun b1=>rN<|tSR<|rM J J<|rM J J<|ARun.qv (t_negw J) J<|ARun.qv (q_max J J) J<|rM J J<|bndE h fun v2 e1 h=>r_callp J (base_Gcd_c e1) (CoL.refl _) J<|rA J J<|rN<|tS<|ATodo.regionM (id := 2) (A := [0,0,3,0,0,24,63,127]) 7 mixed J (by kernel_rfl) (by kernel_rfl)<|AM.qv (q_move J) J<|AM.qv (q_move J) J<|bndE h fun n3 e2 h=>AM.qv (t_quoS J J e2) J<|AM.qv (q_move J) J<|AM.qv (q_move J) J<|bndE h fun n4 e3 h=>AM.qv (t_quoS J J e3) J<|AM.qv (n_build J J J J J) J<|AM.nil<|n_store_ptr J J J J .p0 J J<|rN<|ATodo.ret<|?_
  obtain rfl := Option.some.inj h
  exact ImpX.here ⟨_,.cons (.all _ _ _ _ _ _ J .p0 TUnder.h TInfo.h J J) .nil,J⟩

theorem rule_Value_c [GI : GTab] {p0x0 : Rule} {p1x0 : List Sample} {p2x0 : Str} {p3x0 : Int} {r : Fraction × Bool × Int} (h : rule_Value p0x0 p1x0 p2x0 p3x0 = some r) : Pu Tryz.prog 37 [Rule.av p0x0,lE3 p1x0,.str p2x0,I p3x0] (.tup [Fraction.av r.1,.bool r.2.1,I r.2.2]) := by
  unfold rule_Value at h
  refine ACall.bodyN Tryz.func37 J Tryz.ntmps37 Tryz.results37 J J ?_
  refine tSR<|n_box J J J J fun b1=>n_alloc J J J J fun b2=>rA J J<|rA J J<|rN<|tS<|tSR<|ARun.qv (q_load_ptr_all J J .p1 J) J<|rM J J<|rM J J<|rM J J<|bndE h fun v3 e1 h=>r_callp J (rule_oneFault_c e1) (CoL.refl _) J<|rA J J<|rN<|tSR<|rM J J<|ARun.qv (q_neq J J) J<|rN<|ATodo.cond_d J (fun hc=>?_) (fun hc=>?_)
  · refine have h := iteT hc h; tSR<|ARun.qv (n_build J J J J J) J<|rM J J<|n_store_ptr J J J J .p0 J J<|rA J J<|rA J J<|rN<|ATodo.ret<|?_
    obtain rfl := Option.some.inj h
    exact ImpX.here ⟨_,.cons (.all _ _ _ _ _ _ J .p0 TUnder.h TInfo.h J J) (.cons (.tmp _ _ J) (.cons (.tmp _ _ J) .nil)),J⟩
  · refine have h := iteF hc h; tK<|tSR<|rM J J<|rM J J<|rM J J<|ARun.ghost<|ImpX.frzPtrL (ss := [4]) (by simp [lk]) .p1<|ImpX.here<|bndE h fun v4 e2 h=>t_call7 J (rule_standing_c e2) (CoL.refl _) .nil (fun _ _ _ _ _ _ _=>J) J fun b5 b6 r7 b8 r9 b10 r11=>rA J J<|rN<|tSR<|rM J J<|ARun.qv (q_nilCheck_ptr J) J<|rF J J J<|rL J J .p0 J J<|ARun.qv (q_len_sl J) J<|rA J J<|rN<|tSR<|rA J J<|rN<|tS<|ATodo.block<|tSR<|ARun.qv (n_field_rptr J J) J<|ARun.qv (q_load_rptr J J J) J<|ARun.qv (q_eql J J) J<|rA J J<|rN<|ATodo.cond_d J (fun hc=>?_) (fun hc=>?_)
    · refine have h := iteT hc h; tSR<|rM J J<|rM J J<|r_callvp J J (rule_Value_1x_c J) (CoL.refl _) J<|rX J J J<|rX J J J<|rX J J J<|n_store_ptr J J J J .p4 J J<|rA J J<|rA J J<|rN<|ATodo.ret<|?_
      obtain rfl := Option.some.inj h
      exact ImpX.here ⟨_,.cons (.all _ _ _ _ _ _ J .p4 TUnder.h TInfo.h J J) (.cons (.tmp _ _ J) (.cons (.tmp _ _ J) .nil)),J⟩
    · refine have h := iteF hc h; tSR<|rM J J<|ARun.qv (q_eql J J) J<|rA J J<|rN<|ATodo.cond_d J (fun hc=>?_) (fun hc=>?_)
      · refine have h := iteT hc h; tSR<|ARun.qv (n_build J J J J J) J<|n_store_ptr J J J J .p4 J J<|rA J J<|rA J J<|rN<|ATodo.ret<|?_
        obtain rfl := Option.some.inj h
        exact ImpX.here ⟨_,.cons (.all _ _ _ _ _ _ J .p4 TUnder.h TInfo.h J J) (.cons (.tmp _ _ J) (.cons (.tmp _ _ J) .nil)),J⟩
      · refine have h := iteF hc h; tSR<|ARun.qv (n_field_rptr J J) J<|ARun.qv (q_load_rptr J J J) J<|ARun.qv (q_eql J J) J<|rA J J<|rN<|ATodo.cond_d J (fun hc=>?_) (fun hc=>?_)
        · refine have h := iteT hc h; tSR<|rM J J<|rM J J<|ARun.qv (q_nilCheck_ptr J) J<|rF J J J<|rL J J .p0 J J<|bndE h fun v12 e3 h=>ARun.qv (t_index_dq (Ps := r9) (Xs := v4.least_) J J J e3) J<|ARun.qv (t_field_aptr J J) J<|ARun.qv (t_load_dq (g := Rule_sample.av) (Ps := r9) (Xs := v4.least_) J J .p2 e3 J) J<|r_callvp J J (rule_Value_1x_c J) (CoL.refl _) J<|rX J J J<|rX J J J<|rX J J J<|n_store_ptr J J J J .p4 J J<|rA J J<|rA J J<|rN<|ATodo.ret<|?_
          obtain rfl := Option.some.inj h
          exact ImpX.here ⟨_,.cons (.all _ _ _ _ _ _ J .p4 TUnder.h TInfo.h J J) (.cons (.tmp _ _ J) (.cons (.tmp _ _ J) .nil)),J⟩
        · refine have h := iteF hc h; tSR<|ARun.qv (n_field_rptr J J) J<|ARun.qv (q_load_rptr J J J) J<|ARun.qv (q_eql J J) J<|rA J J<|rN<|ATodo.cond_d J (fun hc=>?_) (fun hc=>?_)
          · refine have h := iteT hc h; tSR<|rM J J<|rM J J<|ARun.qv (q_nilCheck_ptr J) J<|rF J J J<|rL J J .p0 J J<|bndE h fun v13 e4 h=>ARun.qv (t_index_dq (Ps := r11) (Xs := v4.most_) J J J e4) J<|ARun.qv (t_field_aptr J J) J<|ARun.qv (t_load_dq (g := Rule_sample.av) (Ps := r11) (Xs := v4.most_) J J .p3 e4 J) J<|r_callvp J J (rule_Value_1x_c J) (CoL.refl _) J<|rX J J J<|rX J J J<|rX J J J<|n_store_ptr J J J J .p4 J J<|rA J J<|rA J J<|rN<|ATodo.ret<|?_
            obtain rfl := Option.some.inj h
            exact ImpX.here ⟨_,.cons (.all _ _ _ _ _ _ J .p4 TUnder.h TInfo.h J J) (.cons (.tmp _ _ J) (.cons (.tmp _ _ J) .nil)),J⟩
          · refine have h := iteF hc h; tSR<|ARun.qv (n_field_rptr J J) J<|ARun.qv (q_load_rptr J J J) J<|ARun.qv (q_eql J J) J<|rA J J<|rN<|ATodo.cond_d J (fun hc=>?_) (fun hc=>?_)
            · refine have h := iteT hc h; tSR<|rM J J<|ARun.qv (q_nilCheck_ptr J) J<|rF J J J<|rL J J .p0 J J<|rM J J<|bndE h fun v14 e5 h=>r_callp J (base_Fraction_c e5) (CoL.refl _) J<|n_store_ptr J J J J .p4 J J<|rA J J<|rA J J<|rN<|ATodo.ret<|?_
              obtain rfl := Option.some.inj h
              exact ImpX.here ⟨_,.cons (.all _ _ _ _ _ _ J .p4 TUnder.h TInfo.h J J) (.cons (.tmp _ _ J) (.cons (.tmp _ _ J) .nil)),J⟩
            · refine have h := iteF hc h; tSR<|ARun.qv (n_field_rptr J J) J<|ARun.qv (q_load_rptr J J J) J<|ARun.qv (q_eql J J) J<|rA J J<|rN<|ATodo.cond_d J (fun hc=>?_) (fun hc=>?_)
              · refine have h := iteT hc h; tS<|bndE h fun v15 e6 h=>bndE h fun v16 e7 h=>ATodo.regionT (id := 18) (A := [0,0,2,6,14,0,32,126,254,510,0,1024,3072,7168,15360,31744,64512,131070,262143,524287,524287,524287,4194303,8388607,16777215]) (H0 := []) (HH := fun β=>[(b5,.cells [.rptr [.str p0x0.Key,.str p0x0.Metric,I p0x0.Agg,I p0x0.Long,.bool p0x0.Above,I p0x0.On,I p0x0.Off,I p0x0.Hold,I p0x0.Rest,I p0x0.Empty],.sl 2 b6 r7.length v4.window_.length,.sl 2 b8 r9.length v4.least_.length,.sl 2 b10 r11.length v4.most_.length,I v4.sum_,I v4.state_,I v4.since_,.bool v4.firing_,I v4.began_,.func (.func 144) []]),(b6,aE5 (r7 ++ v4.window_)),(b8,aE5 (r9 ++ v4.least_)),(b10,aE5 (r11 ++ v4.most_)),(b2,.cells [I (0 : Int),I (0 : Int)])]) 22 mixed J (by kernel_rfl) (by kernel_rfl) [] [] J (by kernel_rfl) J .nil (fun _=>J)<|AT.am 18 J J<|AM.qv (q_move J) J<|AM.qv (q_move J) J<|AM.qv (q_nilCheck_ptr J) J<|AM.qv (n_field_ptr J J) J<|AM.qv (q_load_ptr J J .p0 J) J<|AM.qv (q_move J) J<|AM.qv (q_subw J J) J<|AM.qv (t_index_dq (Ps := r7) (Xs := v4.window_) J J J e6) J<|AM.qv (t_field_aptr J J) J<|AM.qv (t_load_dq (g := Rule_sample.av) (Ps := r7) (Xs := v4.window_) J J .p1 e6 J) J<|AM.qv (q_move J) J<|AM.qv (q_nilCheck_ptr J) J<|AM.qv (n_field_ptr J J) J<|AM.qv (q_load_ptr J J .p0 J) J<|AM.qv (t_index_dq (Ps := r7) (Xs := v4.window_) J J J e7) J<|AM.qv (t_field_aptr J J) J<|AM.qv (t_load_dq (g := Rule_sample.av) (Ps := r7) (Xs := v4.window_) J J .p1 e7 J) J<|AM.qv (q_subw J J) J<|AM.nil<|AT.runS (av := .tup [.agg [I (((rule_Value_1x (w64 (v15.value_ - v16.value_))).1).Num),I (((rule_Value_1x (w64 (v15.value_ - v16.value_))).1).Den)],.bool ((rule_Value_1x (w64 (v15.value_ - v16.value_))).2.1),I ((rule_Value_1x (w64 (v15.value_ - v16.value_))).2.2)]) (Ti := []) (Pi := []) (fun _=>J) (fun _=>J) (fun _=>J) J J J ?_ ?_
                · exact r_callvp J J (rule_Value_1x_c J) (CoL.refl _) J<|ARun.nil ⟨_,J,J⟩
                refine AT.am 3 J J<|AM.qv (q_extract J J) J<|AM.qv (q_extract J J) J<|AM.qv (q_extract J J) J<|AM.nil<|AT.nilN (fun _=>J) fun β=>n_store_ptr J J J J .p4 J J<|rA J J<|rA J J<|rN<|ATodo.ret<|?_
                obtain rfl := Option.some.inj h
                exact ImpX.here ⟨_,.cons (.all _ _ _ _ _ _ J .p4 TUnder.h TInfo.h J J) (.cons (.tmp _ _ J) (.cons (.tmp _ _ J) .nil)),J⟩
              · refine have h := iteF hc h; tK<|ATodo.blk<|tSR<|rM J J<|rM J J<|ARun.qv (q_nilCheck_ptr J) J<|rF J J J<|rL J J .p0 J J<|rM J J<|ARun.qv (q_subw J J) J<|bndE h fun v17 e8 h=>ARun.qv (t_index_dq (Ps := r7) (Xs := v4.window_) J J J e8) J<|ARun.qv (t_field_aptr J J) J<|ARun.qv (t_load_dq (g := Rule_sample.av) (Ps := r7) (Xs := v4.window_) J J .p1 e8 J) J<|r_callvp J J (rule_Value_1x_c J) (CoL.refl _) J<|rX J J J<|rX J J J<|rX J J J<|n_store_ptr J J J J .p4 J J<|rA J J<|rA J J<|rN<|ATodo.ret<|?_
                obtain rfl := Option.some.inj h
                exact ImpX.here ⟨_,.cons (.all _ _ _ _ _ _ J .p4 TUnder.h TInfo.h J J) (.cons (.tmp _ _ J) (.cons (.tmp _ _ J) .nil)),J⟩

end Go.Proofs.YtppnalkmokajgaaGreatDoor

