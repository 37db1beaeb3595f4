/- The code computes the plain functions: proofs written by shal.py. -/
import Derived.Test.YtohnopfmfehhkaaGreatDoorOrgP
import Derived.Test.YtohnopfmfehhkaaGreatDoorLib
set_option maxHeartbeats 4000000
set_option maxRecDepth 100000
set_option linter.unusedVariables false
set_option linter.unusedSimpArgs false
namespace Go.Proofs.YtohnopfmfehhkaaGreatDoor
open Go Go.Eng Go.Proofs Go.Beacon
attribute [local irreducible] ARun ATodo AQ QV ACall ImpX AWp AM
instance eqg76 : EqGd Tryz.prog 76 := ⟨by kernel_rfl⟩
instance eqt76 : EqTy Tryz.prog 76 2 ValueS.av := ⟨fun x y w S v u hv hu=>by
  obtain ⟨vs, rfl, hl, ha⟩ := At.agg_inv hv
  obtain ⟨us, rfl, hl', ha'⟩ := At.agg_inv hu
  obtain ⟨v0, p0, q0⟩ := AtA.get hl ha (off := 0) rfl
  obtain ⟨u0, p0', q0'⟩ := AtA.get hl' ha' (off := 0) rfl
  obtain ⟨v1, p1, q1⟩ := AtA.get hl ha (off := 1) rfl
  obtain ⟨u1, p1', q1'⟩ := AtA.get hl' ha' (off := 1) rfl
  obtain ⟨v2, p2, q2⟩ := AtA.get hl ha (off := 2) rfl
  obtain ⟨u2, p2', q2'⟩ := AtA.get hl' ha' (off := 2) rfl
  obtain ⟨v3, p3, q3⟩ := AtA.get hl ha (off := 3) rfl
  obtain ⟨u3, p3', q3'⟩ := AtA.get hl' ha' (off := 3) rfl
  refine EqR.cast (EqR.struct Tryz.underlying76 (by kernel_rfl) (.cons (by decide) (part_one J p0) (part_one J p0') (EqR.up (EqTy.h (g := I) x.Kind y.Kind w S _ _ q0 q0') 0)  (.cons (by decide) (part_one J p1) (part_one J p1') (EqR.up (EqTy.h (g := AV.bool) x.Flag y.Flag w S _ _ q1 q1') 0)  (.cons (by decide) (part_one J p2) (part_one J p2') (EqR.up (EqTy.h (g := I) x.Number y.Number w S _ _ q2 q2') 0)  (.cons (by decide) (part_one J p3) (part_one J p3') (EqR.up (EqTy.h (g := AV.str) x.Words y.Words w S _ _ q3 q3') 0) .nil))))) ?_
  obtain ⟨_, _, _, _⟩ := x
  obtain ⟨_, _, _, _⟩ := y
  rw [Bool.eq_iff_iff]; simp [and_assoc]⟩
instance eqg78 : EqGd Tryz.prog 78 := ⟨by kernel_rfl⟩
instance eqt78 : EqTy Tryz.prog 78 2 Version.av := ⟨fun x y w S v u hv hu=>by
  obtain ⟨vs, rfl, hl, ha⟩ := At.agg_inv hv
  obtain ⟨us, rfl, hl', ha'⟩ := At.agg_inv hu
  obtain ⟨v0, p0, q0⟩ := AtA.get hl ha (off := 0) rfl
  obtain ⟨u0, p0', q0'⟩ := AtA.get hl' ha' (off := 0) rfl
  obtain ⟨v1, p1, q1⟩ := AtA.get hl ha (off := 1) rfl
  obtain ⟨u1, p1', q1'⟩ := AtA.get hl' ha' (off := 1) rfl
  obtain ⟨v2, p2, q2⟩ := AtA.get hl ha (off := 2) rfl
  obtain ⟨u2, p2', q2'⟩ := AtA.get hl' ha' (off := 2) rfl
  refine EqR.cast (EqR.struct Tryz.underlying78 (by kernel_rfl) (.cons (by decide) (part_one J p0) (part_one J p0') (EqR.up (EqTy.h (g := I) x.Major y.Major w S _ _ q0 q0') 0)  (.cons (by decide) (part_one J p1) (part_one J p1') (EqR.up (EqTy.h (g := I) x.Minor y.Minor w S _ _ q1 q1') 0)  (.cons (by decide) (part_one J p2) (part_one J p2') (EqR.up (EqTy.h (g := I) x.Patch y.Patch w S _ _ q2 q2') 0) .nil)))) ?_
  obtain ⟨_, _, _⟩ := x
  obtain ⟨_, _, _⟩ := y
  rw [Bool.eq_iff_iff]; simp [and_assoc]⟩
instance eqg204 : EqGd Tryz.prog 204 := ⟨by kernel_rfl⟩
instance eqt204 : EqTy Tryz.prog 204 2 Tenant_asks.av := ⟨fun x y w S v u hv hu=>by
  obtain ⟨vs, rfl, hl, ha⟩ := At.agg_inv hv
  obtain ⟨us, rfl, hl', ha'⟩ := At.agg_inv hu
  obtain ⟨v0, p0, q0⟩ := AtA.get hl ha (off := 0) rfl
  obtain ⟨u0, p0', q0'⟩ := AtA.get hl' ha' (off := 0) rfl
  obtain ⟨v1, p1, q1⟩ := AtA.get hl ha (off := 1) rfl
  obtain ⟨u1, p1', q1'⟩ := AtA.get hl' ha' (off := 1) rfl
  refine EqR.cast (EqR.struct Tryz.underlying204 (by kernel_rfl) (.cons (by decide) (part_one J p0) (part_one J p0') (EqR.up (EqTy.h (g := AV.str) x.a_ y.a_ w S _ _ q0 q0') 0)  (.cons (by decide) (part_one J p1) (part_one J p1') (EqR.up (EqTy.h (g := AV.str) x.b_ y.b_ w S _ _ q1 q1') 0) .nil))) ?_
  obtain ⟨_, _⟩ := x
  obtain ⟨_, _⟩ := y
  rw [Bool.eq_iff_iff]; simp [and_assoc]⟩
instance mky204 : MKey Tryz.prog 204 Tenant_asks.av := MKey.struct (n := 2) J Tryz.underlying204 (fun f hf=>by
  simp only [List.mem_cons,List.not_mem_nil,or_false] at hf
  rcases hf with rfl | rfl
  · exact ⟨_,TUnder.h (P := Tryz.prog) (t := 9),J,by decide⟩
  · exact ⟨_,TUnder.h (P := Tryz.prog) (t := 9),J,by decide⟩) (fun x=>⟨_,J,J,fun c hc=>by
  simp only [List.mem_cons,List.not_mem_nil,or_false] at hc
  rcases hc with rfl | rfl <;> rfl⟩) (fun a b h => by
  obtain ⟨_, _⟩ := a
  obtain ⟨_, _⟩ := b
  simpa [Tenant_asks.av] using h)
theorem Below_c [GI : GTab] {p0x0 : Int} {p1x0 : Int} {r : Int} (h : Below p0x0 p1x0 = some r) : Pu Tryz.prog 57 [I p0x0,I p1x0] (I r) := by
  unfold Below at h
  refine ACall.bodyN Tryz.func57 J Tryz.ntmps57 Tryz.results57 J J ?_
  refine tSR<|rA J J<|rN<|tS<|tSR<|rM J J<|ARun.qv (q_lss J J) J<|rN<|ATodo.cond_d J (fun hc=>?_) (fun hc=>?_)
  · refine have h := iteT hc h; tSR<|rA J J<|rN<|ATodo.ret<|?_
    obtain rfl := Option.some.inj h
    exact ImpX.here ⟨_,.cons (.tmp _ _ J) .nil,J⟩
  · refine have h := iteF hc h; tK<|tSR<|rM J J<|rM J J<|bndE h fun n1 e1 h=>ARun.qv (t_remS J J e1) J<|rA J J<|rN<|tS<|tSR<|rM J J<|ARun.qv (q_lss J J) J<|rN<|ATodo.cut (fun σ'=>∃ (n2 : Int),Below_j1 n2 = some r ∧ σ' = ⟨16,[(0,I n2)],[]⟩) ?_ ?_
    · refine ATodo.cond_d J (fun hc=>?_) (fun hc=>?_)
      · exact have h := iteT hc h; tR<|rM J J<|rM J J<|ARun.qv (q_addw J J) J<|rA J J<|rN<|ATodo.stop<|ImpX.lq [] ⟨w64 (n1 + p1x0),h,J⟩ J J
      · exact have h := iteF hc h; tK<|ATodo.stop<|ImpX.lq [] ⟨n1,h,J⟩ J J
    · rintro σ' ⟨n2, h, rfl⟩
      unfold Below_j1 at h
      refine tSR<|rM J J<|rA J J<|rN<|ATodo.ret<|?_
      obtain rfl := Option.some.inj h
      exact ImpX.here ⟨_,.cons (.tmp _ _ J) .nil,J⟩

theorem Stream_Next_c [GI : GTab] {b_0 : Bk} {p0x0 : Fleetmake_Stream} {p1x0 : Int} {r : Int × Fleetmake_Stream} (h : Stream_Next p0x0 p1x0 = some r) : ACall Tryz.prog 9 [.ptr b_0 0,I p1x0] [(b_0,.cells [.list 1 (p0x0.L.map I),I p0x0.at_])] (T0 ([(b_0,.cells [.list 1 (r.2.L.map I),I r.2.at_])]) (I r.1)) := by
  unfold Stream_Next at h
  refine ACall.lessH ?_
  refine ACall.bodyN Tryz.func9 J Tryz.ntmps9 Tryz.results9 J J ?_
  refine tSR<|rA J J<|rN<|tSR<|rM J J<|ARun.qv (q_nilCheck_ptr J) J<|rF J J J<|rL J J .p0 J J<|ARun.qv (q_addw J J) J<|ARun.qv (q_nilCheck_ptr J) J<|rF J J J<|n_store_ptr J J J J .p0 J J<|rN<|tS<|tSR<|rM J J<|ARun.qv (q_nilCheck_ptr J) J<|rF J J J<|rL J J .p0 J J<|ARun.qv (t_len J) J<|ARun.qv (q_eql J J) J<|rN<|ATodo.cond_d J (fun hc=>?_) (fun hc=>?_)
  · refine have h := iteT hc h; tSR<|rM J J<|ARun.qv (q_nilCheck_ptr J) J<|rF J J J<|rL J J .p0 J J<|ARun.qv (q_mulw J J) J<|rM J J<|bndE h fun v1 e1 h=>r_callp J (Below_c e1) (CoL.refl _) J<|rA J J<|rN<|ATodo.ret<|?_
    obtain rfl := Option.some.inj h
    exact ImpX.here ⟨_,.cons (.tmp _ _ J) .nil,_,.cons .p0 .nil,⟨J,J⟩⟩
  · refine have h := iteF hc h; tK<|tS<|ATodo.regionM (id := 4) (A := [0,1,3,7,15,0,32,96,224,480,1023,2047]) 12 mixed J (by kernel_rfl) (by kernel_rfl)<|AM.qv (q_move J) J<|AM.qv (q_nilCheck_ptr J) J<|AM.qv (n_field_ptr J J) J<|AM.qv (q_load_ptr J J .p0 J) J<|AM.qv (q_subw J J) J<|AM.qv (q_move J) J<|AM.qv (q_nilCheck_ptr J) J<|AM.qv (n_field_ptr J J) J<|AM.qv (q_load_ptr J J .p0 J) J<|AM.qv (t_len J) J<|bndE h fun n2 e2 h=>AM.qv (t_remS J J e2) J<|AM.qv (q_assign J) J<|AM.nil<|rN<|tS<|ATodo.regionM (id := 5) (A := [0,1,3,7,15,0,32,96,224,480,1023,2047]) 12 mixed J (by kernel_rfl) (by kernel_rfl)<|AM.qv (q_move J) J<|AM.qv (q_nilCheck_ptr J) J<|AM.qv (n_field_ptr J J) J<|AM.qv (q_load_ptr J J .p0 J) J<|AM.qv (q_subw J J) J<|AM.qv (q_move J) J<|AM.qv (q_nilCheck_ptr J) J<|AM.qv (n_field_ptr J J) J<|AM.qv (q_load_ptr J J .p0 J) J<|AM.qv (t_len J) J<|bndE h fun n3 e3 h=>AM.qv (t_quoS J J e3) J<|AM.qv (q_assign J) J<|AM.nil<|rN<|tSR<|rM J J<|ARun.qv (q_nilCheck_ptr J) J<|rF J J J<|rL J J .p0 J J<|rM J J<|bndE h fun v4 e4 h=>ARun.qv (t_index J J J e4 J J) J<|ARun.qv (q_load_rptr J J J) J<|bndE h fun v5 e5 h=>r_callp J (Below_c e5) (CoL.refl _) J<|rM J J<|rM J J<|ARun.qv (q_addw J J) J<|ARun.qv (q_mulw J J) J<|ARun.qv (q_addw J J) J<|rM J J<|bndE h fun v6 e6 h=>r_callp J (Below_c e6) (CoL.refl _) J<|rA J J<|rN<|ATodo.ret<|?_
    obtain rfl := Option.some.inj h
    exact ImpX.here ⟨_,.cons (.tmp _ _ J) .nil,_,.cons .p0 .nil,⟨J,J⟩⟩

theorem Stream_Some_c [GI : GTab] {b_0 : Bk} {p0x0 : Fleetmake_Stream} {p1x0 : List Str} {r : Str × Fleetmake_Stream} (h : Stream_Some p0x0 p1x0 = some r) : ACall Tryz.prog 7 [.ptr b_0 0,.list 1 (p1x0.map AV.str)] [(b_0,.cells [.list 1 (p0x0.L.map I),I p0x0.at_])] (T0 ([(b_0,.cells [.list 1 (r.2.L.map I),I r.2.at_])]) (.str r.1)) := by
  unfold Stream_Some at h
  refine ACall.lessH ?_
  refine ACall.bodyN Tryz.func7 J Tryz.ntmps7 Tryz.results7 J J ?_
  refine tSR<|rA J J<|rN<|tSR<|rM J J<|rM J J<|rM J J<|ARun.qv (t_len J) J<|bndE h fun v1 e1 h=>t_call0 J (Stream_Next_c e1) (CoL.refl _) (.cons .p0 .nil) J J<|bndE h fun v2 e2 h=>ARun.qv (t_index J J J e2 J J) J<|ARun.qv (q_load_rptr J J J) J<|rA J J<|rN<|ATodo.ret<|?_
  obtain rfl := Option.some.inj h
  exact ImpX.here ⟨_,.cons (.tmp _ _ J) .nil,_,.cons .p0 .nil,⟨J,J⟩⟩

theorem Stream_acts_c [GI : GTab] {b_0 : Bk} {p0x0 : Fleetmake_Stream} {r : (List Str) × Fleetmake_Stream} (h : Stream_acts p0x0 = some r) : ACall Tryz.prog 55 [.ptr b_0 0] [(b_0,.cells [.list 1 (p0x0.L.map I),I p0x0.at_])] (T0 ([(b_0,.cells [.list 1 (r.2.L.map I),I r.2.at_])]) (.list 1 (r.1.map AV.str))) := by
  unfold Stream_acts at h
  refine ACall.lessH ?_
  refine ACall.bodyN Tryz.func55 J Tryz.ntmps55 Tryz.results55 J J ?_
  refine tSR<|rA J J<|rN<|tSR<|n_buildSliceL (xs := ([([42] : Str)]).map AV.str) J J J J J J<|n_buildSliceL (xs := ([([100,101,118,105,99,101,46,42] : Str)]).map AV.str) J J J J J J<|n_buildSliceL (xs := ([([100,101,118,105,99,101,46,114,101,97,100] : Str)]).map AV.str) J J J J J J<|n_buildSliceL (xs := ([([100,101,118,105,99,101,46,114,101,97,100] : Str),([111,114,103,46,42] : Str)]).map AV.str) J J J J J J<|n_buildSliceL (xs := ([([100,101,118,105,99,101,46,114,101,97,100] : Str),([100,101,118,105,99,101,46,119,114,105,116,101] : Str)]).map AV.str) J J J J J J<|n_buildSliceL (xs := ([[([42] : Str)],[([100,101,118,105,99,101,46,42] : Str)],[([100,101,118,105,99,101,46,114,101,97,100] : Str)],[([100,101,118,105,99,101,46,114,101,97,100] : Str),([111,114,103,46,42] : Str)],[([100,101,118,105,99,101,46,114,101,97,100] : Str),([100,101,118,105,99,101,46,119,114,105,116,101] : Str)]]).map (encL 1 AV.str)) J J J J J J<|rM J J<|bndE h fun v1 e1 h=>t_call0 J (Stream_Next_c e1) (CoL.refl _) (.cons .p0 .nil) J J<|bndE h fun v2 e2 h=>ARun.qv (t_index J J J e2 J J) J<|ARun.qv (q_load_rptr J J J) J<|rA J J<|rN<|ATodo.ret<|?_
  obtain rfl := Option.some.inj h
  exact ImpX.here ⟨_,.cons (.tmp _ _ J) .nil,_,.cons .p0 .nil,⟨J,J⟩⟩

theorem Stream_Flip_c [GI : GTab] {b_0 : Bk} {p0x0 : Fleetmake_Stream} {p1x0 : Int} {r : Bool × Fleetmake_Stream} (h : Stream_Flip p0x0 p1x0 = some r) : ACall Tryz.prog 54 [.ptr b_0 0,I p1x0] [(b_0,.cells [.list 1 (p0x0.L.map I),I p0x0.at_])] (T0 ([(b_0,.cells [.list 1 (r.2.L.map I),I r.2.at_])]) (.bool r.1)) := by
  unfold Stream_Flip at h
  refine ACall.lessH ?_
  refine ACall.bodyN Tryz.func54 J Tryz.ntmps54 Tryz.results54 J J ?_
  refine tSR<|rA J J<|rN<|tSR<|rM J J<|rM J J<|bndE h fun v1 e1 h=>t_call0 J (Stream_Next_c e1) (CoL.refl _) (.cons .p0 .nil) J J<|ARun.qv (q_eql J J) J<|rA J J<|rN<|ATodo.ret<|?_
  obtain rfl := Option.some.inj h
  exact ImpX.here ⟨_,.cons (.tmp _ _ J) .nil,_,.cons .p0 .nil,⟨J,J⟩⟩

theorem Stream_Pick_c [GI : GTab] {b_0 : Bk} {p0x0 : Fleetmake_Stream} {p1x0 : List Int} {r : Int × Fleetmake_Stream} (h : Stream_Pick p0x0 p1x0 = some r) : ACall Tryz.prog 83 [.ptr b_0 0,.list 1 (p1x0.map I)] [(b_0,.cells [.list 1 (p0x0.L.map I),I p0x0.at_])] (T0 ([(b_0,.cells [.list 1 (r.2.L.map I),I r.2.at_])]) (I r.1)) := by
  unfold Stream_Pick at h
  refine ACall.lessH ?_
  refine ACall.bodyN Tryz.func83 J Tryz.ntmps83 Tryz.results83 J J ?_
  refine tSR<|rA J J<|rN<|tSR<|rM J J<|rM J J<|rM J J<|ARun.qv (t_len J) J<|bndE h fun v1 e1 h=>t_call0 J (Stream_Next_c e1) (CoL.refl _) (.cons .p0 .nil) J J<|bndE h fun v2 e2 h=>ARun.qv (t_index J J J e2 J J) J<|ARun.qv (q_load_rptr J J J) J<|rA J J<|rN<|ATodo.ret<|?_
  obtain rfl := Option.some.inj h
  exact ImpX.here ⟨_,.cons (.tmp _ _ J) .nil,_,.cons .p0 .nil,⟨J,J⟩⟩

theorem Stream_leaf_1x_c [GI : GTab] {b_0p : Bk} {p0x0 : Fleetmake_Stream} {r : Str × Fleetmake_Stream} (h : Stream_leaf_1x p0x0 = some r) : ACall Tryz.prog 168 [.rptr [.ptr b_0p 0]] [(b_0p,.cells [.list 1 (p0x0.L.map I),I p0x0.at_])] (T0 ([(b_0p,.cells [.list 1 (r.2.L.map I),I r.2.at_])]) (.str r.1)) := by
  unfold Stream_leaf_1x at h
  refine ACall.lessH ?_
  refine ACall.bodyN Tryz.func168 J Tryz.ntmps168 Tryz.results168 J J ?_
  refine tSR<|rA J J<|rN<|tSR<|ARun.qv (q_load_rptr J J J) J<|n_buildSliceL (xs := ([([61,61] : Str),([61,61] : Str),([33,61] : Str)]).map AV.str) J J J J J J<|bndE h fun v1 e1 h=>t_call0 J (Stream_Some_c e1) (CoL.refl _) (.cons .p0 .nil) J J<|rA J J<|rN<|ATodo.ret<|?_
  obtain rfl := Option.some.inj h
  exact ImpX.here ⟨_,.cons (.tmp _ _ J) .nil,_,.cons .p0 .nil,⟨J,J⟩⟩

theorem Stream_leaf_2x_c [GI : GTab] {b_1p : Bk} {p0x0 : List Str} {p1x0 : Fleetmake_Stream} {r : ValueS × Fleetmake_Stream} (h : Stream_leaf_2x p0x0 p1x0 = some r) : ACall Tryz.prog 169 [.list 1 (p0x0.map AV.str),.rptr [.ptr b_1p 0]] [(b_1p,.cells [.list 1 (p1x0.L.map I),I p1x0.at_])] (T0 ([(b_1p,.cells [.list 1 (r.2.L.map I),I r.2.at_])]) (.agg [I r.1.Kind,.bool r.1.Flag,I r.1.Number,.str r.1.Words])) := by
  unfold Stream_leaf_2x at h
  refine ACall.lessH ?_
  refine ACall.bodyN Tryz.func169 J Tryz.ntmps169 Tryz.results169 J J ?_
  refine tSR<|n_alloc J J J J fun b1=>rN<|tSR<|ARun.qv (q_load_rptr J J J) J<|rM J J<|bndE h fun v2 e1 h=>t_call0 J (Stream_Some_c e1) (CoL.refl _) (.cons .p1 .nil) J J<|ARun.qv (n_build J J J J J) J<|n_store_ptr J J J J .p1 J J<|rN<|ATodo.ret<|?_
  obtain rfl := Option.some.inj h
  exact ImpX.here ⟨_,.cons (.all _ _ _ _ _ _ J .p1 TUnder.h TInfo.h J J) .nil,_,.cons .p0 .nil,⟨J,J⟩⟩

theorem Q_Ops_c [GI : GTab] {r : (List Str)} (h : Q_Ops = r) : Pu Tryz.prog 170 [] (.list 1 (r.map AV.str)) := by
  unfold Q_Ops at h
  refine ACall.bodyN Tryz.func170 J Tryz.ntmps170 Tryz.results170 J J ?_
  refine tSR<|rA J J<|rN<|tSR<|n_buildSliceL (xs := ([([61,61] : Str),([33,61] : Str),([60,61] : Str),([62,61] : Str),([60] : Str),([62] : Str)]).map AV.str) J J J J J J<|rA J J<|rN<|ATodo.ret<|?_
  obtain rfl := h
  exact ImpX.here ⟨_,.cons (.tmp _ _ J) .nil,J⟩

theorem Stream_leaf_c [GI : GTab] {b_0 : Bk} {p0x0 : Fleetmake_Stream} {r : Query × Fleetmake_Stream} (h : Stream_leaf p0x0 = some r) : ACall Tryz.prog 114 [.ptr b_0 0] [(b_0,.cells [.list 1 (p0x0.L.map I),I p0x0.at_])] (T0 ([(b_0,.cells [.list 1 (r.2.L.map I),I r.2.at_])]) (.agg [I r.1.Kind,.str r.1.Field,.str r.1.Op,I r.1.Value.Kind,.bool r.1.Value.Flag,I r.1.Value.Number,.str r.1.Value.Words,I r.1.Version.Major,I r.1.Version.Minor,I r.1.Version.Patch,.list 11 (r.1.Kids.map Query.av)])) := by
  unfold Stream_leaf at h
  refine ACall.lessH ?_
  refine ACall.bodyN Tryz.func114 J Tryz.ntmps114 Tryz.results114 J J ?_
  refine tSR<|n_box J J J J fun b1=>ARun.ghost<|ImpX.frzPtr (s := 1) J .p0<|ImpX.here<|n_alloc J J J J fun b2=>rN<|tSR<|ARun.qv (q_makeFunc J) J<|rA J J<|rN<|tSR<|ARun.qv (q_makeFunc J) J<|rA J J<|rN<|tS<|tSR<|ARun.qv (q_load_rptr J J J) J<|bndE h fun v3 e1 h=>t_call0 J (Stream_Next_c e1) (CoL.refl _) (.cons .p1 .nil) J J<|rN<|ATodo.block<|tSR<|ARun.qv (q_eql J J) J<|rA J J<|rN<|ATodo.cond_d J (fun hc=>?_) (fun hc=>?_)
  · refine have h := iteT hc h; tSR<|ARun.qv (q_load_rptr J J J) J<|n_buildSliceL (xs := ([([116,97,103,46,115,105,116,101] : Str),([116,97,103,46,111,112,101,110] : Str),([112,114,111,112,46,97] : Str),([112,114,111,112,46,102,97,110,46,111,110] : Str)]).map AV.str) J J J J J J<|bndE h fun v4 e2 h=>t_call0 J (Stream_Some_c e2) (CoL.refl _) (.cons .p0 .nil) J J<|ARun.qv (n_build J J J J J) J<|n_store_ptr J J J J .p1 J J<|rN<|ATodo.ret<|?_
    obtain rfl := Option.some.inj h
    exact ImpX.nilBox (j := 10) 11 .p1 J J J<|ImpX.here ⟨_,.cons (.all _ _ _ _ _ _ J .p1 TUnder.h TInfo.h J J) .nil,_,.cons .p0 .nil,⟨J,J⟩⟩
  · refine have h := iteF hc h; tSR<|ARun.qv (q_eql J J) J<|rA J J<|rN<|ATodo.cond_d J (fun hc=>?_) (fun hc=>?_)
    · refine have h := iteT hc h; tSR<|rM J J<|bndE h fun v5 e3 h=>t_callv0 J J J (Stream_leaf_1x_c e3) (CoL.refl _) (.cons .p0 .nil) J J<|rM J J<|n_buildSliceL (xs := ([([100,97] : Str),([100,98] : Str),([102,114,101,115,104] : Str)]).map AV.str) J J J J J J<|bndE h fun v6 e4 h=>t_callv0 J J J (Stream_leaf_2x_c e4) (CoL.refl _) (.cons .p0 .nil) J J<|ARun.qv (n_build J J J J J) J<|n_store_ptr J J J J .p1 J J<|rN<|ATodo.ret<|?_
      obtain rfl := Option.some.inj h
      exact ImpX.nilBox (j := 10) 11 .p1 J J J<|ImpX.here ⟨_,.cons (.all _ _ _ _ _ _ J .p1 TUnder.h TInfo.h J J) .nil,_,.cons .p0 .nil,⟨J,J⟩⟩
    · refine have h := iteF hc h; tSR<|ARun.qv (q_eql J J) J<|rA J J<|rN<|ATodo.cond_d J (fun hc=>?_) (fun hc=>?_)
      · refine have h := iteT hc h; tSR<|ARun.qv (q_load_rptr J J J) J<|n_buildSliceL (xs := ([([109,111,100,101,108] : Str),([116,101,110,97,110,116] : Str)]).map AV.str) J J J J J J<|bndE h fun v7 e5 h=>t_call0 J (Stream_Some_c e5) (CoL.refl _) (.cons .p0 .nil) J J<|rM J J<|bndE h fun v8 e6 h=>t_callv0 J J J (Stream_leaf_1x_c e6) (CoL.refl _) (.cons .p0 .nil) J J<|rM J J<|n_buildSliceL (xs := ([([109,97] : Str),([116,97] : Str),([] : Str),([81] : Str)]).map AV.str) J J J J J J<|bndE h fun v9 e7 h=>t_callv0 J J J (Stream_leaf_2x_c e7) (CoL.refl _) (.cons .p0 .nil) J J<|ARun.qv (n_build J J J J J) J<|n_store_ptr J J J J .p1 J J<|rN<|ATodo.ret<|?_
        obtain rfl := Option.some.inj h
        exact ImpX.nilBox (j := 10) 11 .p1 J J J<|ImpX.here ⟨_,.cons (.all _ _ _ _ _ _ J .p1 TUnder.h TInfo.h J J) .nil,_,.cons .p0 .nil,⟨J,J⟩⟩
      · refine have h := iteF hc h; tSR<|ARun.qv (q_eql J J) J<|rA J J<|rN<|ATodo.cond_d J (fun hc=>?_) (fun hc=>?_)
        · refine have h := iteT hc h; tS<|bndE h fun v10 e8 h=>bndE h fun v11 e9 h=>bndE h fun v12 e10 h=>ATodo.regionT (id := 11) (A := [0,0,3,0,15,0,0,127,0,0,1023,2047,4095,8191]) (H0 := [(b_0,.cells [.list 1 (v3.2.L.map I),I v3.2.at_])]) (HH := fun β=>[(b_0,.cells [.list 1 (v12.2.L.map I),I v12.2.at_]),(b2,.cells [I (0 : Int),.str [],.str [],I (0 : Int),.bool false,I (0 : Int),.str [],I (0 : Int),I (0 : Int),I (0 : Int),.nil])]) 10 mixed J (by kernel_rfl) (by kernel_rfl) [⟨none,some 2,[],fun _=>(b_0,.cells [.list 1 (v3.2.L.map I),I v3.2.at_]),none⟩,⟨some 2,some 4,[],fun _=>(b_0,.cells [.list 1 (v10.2.L.map I),I v10.2.at_]),none⟩,⟨some 4,some 7,[],fun _=>(b_0,.cells [.list 1 (v11.2.L.map I),I v11.2.at_]),none⟩,⟨some 7,none,[],fun _=>(b_0,.cells [.list 1 (v12.2.L.map I),I v12.2.at_]),none⟩] [] J (by kernel_rfl) J (.cons .p0 .nil) (fun _=>J)<|AT.am 2 J J<|AM.qv (q_load_rptr J J J) J<|AM.callp J (Q_Ops_c J) (CoL.refl _) J<|AM.nil<|AT.runS (av := .str v10.1) (Ti := [(b_0,.cells [.list 1 (v3.2.L.map I),I v3.2.at_])]) (Pi := [(b_0,.cells [.list 1 (v10.2.L.map I),I v10.2.at_])]) (fun _=>J) (fun _=>J) (fun _=>J) J J J ?_ ?_
          · exact t_call0 J (Stream_Some_c e8) (CoL.refl _) (.cons .p0 .nil) J J<|ARun.nil ⟨_,J,J⟩
          refine AT.am 1 J J<|AM.qv (q_load_rptr J J J) J<|AM.nil<|AT.runS (av := I v11.1) (Ti := [(b_0,.cells [.list 1 (v10.2.L.map I),I v10.2.at_])]) (Pi := [(b_0,.cells [.list 1 (v11.2.L.map I),I v11.2.at_])]) (fun _=>J) (fun _=>J) (fun _=>J) J J J ?_ ?_
          · exact t_call0 J (Stream_Next_c e9) (CoL.refl _) (.cons .p0 .nil) J J<|ARun.nil ⟨_,J,J⟩
          refine AT.am 2 J J<|AM.qv (q_load_rptr J J J) J<|AM.buildSliceL (xs := ([(0 : Int),(2 : Int)]).map I) J J J J J J<|AM.nil<|AT.runS (av := I v12.1) (Ti := [(b_0,.cells [.list 1 (v11.2.L.map I),I v11.2.at_])]) (Pi := [(b_0,.cells [.list 1 (v12.2.L.map I),I v12.2.at_])]) (fun _=>J) (fun _=>J) (fun _=>J) J J J ?_ ?_
          · exact t_call0 J (Stream_Pick_c e10) (CoL.refl _) (.cons .p0 .nil) J J<|ARun.nil ⟨_,J,J⟩
          refine AT.am 2 J J<|AM.qv (q_load_rptr J J J) J<|AM.buildSliceL (xs := ([(0 : Int),(0 : Int),(9999 : Int)]).map I) J J J J J J<|AM.nil<|AT.nilN (fun _=>J) fun β=>bndE h fun v13 e11 h=>t_call0 J (Stream_Pick_c e11) (CoL.refl _) (.cons .p0 .nil) J J<|ARun.qv (n_build J J J J J) J<|ARun.qv (n_build J J J J J) J<|n_store_ptr J J J J .p1 J J<|rN<|ATodo.ret<|?_
          obtain rfl := Option.some.inj h
          exact ImpX.nilBox (j := 10) 11 .p1 J J J<|ImpX.here ⟨_,.cons (.all _ _ _ _ _ _ J .p1 TUnder.h TInfo.h J J) .nil,_,.cons .p0 .nil,⟨J,J⟩⟩
        · refine have h := iteF hc h; tSR<|ARun.qv (q_eql J J) J<|rA J J<|rN<|ATodo.cond_d J (fun hc=>?_) (fun hc=>?_)
          · refine have h := iteT hc h; tSR<|rM J J<|bndE h fun v14 e12 h=>t_callv0 J J J (Stream_leaf_1x_c e12) (CoL.refl _) (.cons .p0 .nil) J J<|rM J J<|n_buildSliceL (xs := ([([120] : Str),([121] : Str),([97,34,98,92,99] : Str),([] : Str)]).map AV.str) J J J J J J<|bndE h fun v15 e13 h=>t_callv0 J J J (Stream_leaf_2x_c e13) (CoL.refl _) (.cons .p0 .nil) J J<|ARun.qv (n_build J J J J J) J<|n_store_ptr J J J J .p1 J J<|rN<|ATodo.ret<|?_
            obtain rfl := Option.some.inj h
            exact ImpX.nilBox (j := 10) 11 .p1 J J J<|ImpX.here ⟨_,.cons (.all _ _ _ _ _ _ J .p1 TUnder.h TInfo.h J J) .nil,_,.cons .p0 .nil,⟨J,J⟩⟩
          · refine have h := iteF hc h; tSR<|ARun.qv (q_eql J J) J<|rA J J<|rN<|ATodo.cond_d J (fun hc=>?_) (fun hc=>?_)
            · refine have h := iteT hc h; tS<|bndE h fun v16 e14 h=>ATodo.regionT (id := 15) (A := [0,1,0,7,15,31,63]) (H0 := [(b_0,.cells [.list 1 (v3.2.L.map I),I v3.2.at_])]) (HH := fun β=>[(b_0,.cells [.list 1 (v16.2.L.map I),I v16.2.at_]),(b2,.cells [I (0 : Int),.str [],.str [],I (0 : Int),.bool false,I (0 : Int),.str [],I (0 : Int),I (0 : Int),I (0 : Int),.nil])]) 3 mixed J (by kernel_rfl) (by kernel_rfl) [⟨none,some 1,[],fun _=>(b_0,.cells [.list 1 (v3.2.L.map I),I v3.2.at_]),none⟩,⟨some 1,none,[],fun _=>(b_0,.cells [.list 1 (v16.2.L.map I),I v16.2.at_]),none⟩] [] J (by kernel_rfl) J (.cons .p0 .nil) (fun _=>J)<|AT.am 1 J J<|AM.qv (q_move J) J<|AM.nil<|AT.runS (av := .str v16.1) (Ti := [(b_0,.cells [.list 1 (v3.2.L.map I),I v3.2.at_])]) (Pi := [(b_0,.cells [.list 1 (v16.2.L.map I),I v16.2.at_])]) (fun _=>J) (fun _=>J) (fun _=>J) J J J ?_ ?_
              · exact t_callv0 J J J (Stream_leaf_1x_c e14) (CoL.refl _) (.cons .p0 .nil) J J<|ARun.nil ⟨_,J,J⟩
              refine AT.am 1 J J<|AM.qv (q_load_rptr J J J) J<|AM.nil<|AT.nilN (fun _=>J) fun β=>bndE h fun v17 e15 h=>t_call0 J (Stream_Flip_c e15) (CoL.refl _) (.cons .p0 .nil) J J<|ARun.qv (n_build J J J J J) J<|ARun.qv (n_build J J J J J) J<|n_store_ptr J J J J .p1 J J<|rN<|ATodo.ret<|?_
              obtain rfl := Option.some.inj h
              exact ImpX.nilBox (j := 10) 11 .p1 J J J<|ImpX.here ⟨_,.cons (.all _ _ _ _ _ _ J .p1 TUnder.h TInfo.h J J) .nil,_,.cons .p0 .nil,⟨J,J⟩⟩
            · refine have h := iteF hc h; tSR<|ARun.qv (q_eql J J) J<|rA J J<|rN<|ATodo.cond_d J (fun hc=>?_) (fun hc=>?_)
              · refine have h := iteT hc h; tSR<|rM J J<|bndE h fun v18 e16 h=>t_callv0 J J J (Stream_leaf_1x_c e16) (CoL.refl _) (.cons .p0 .nil) J J<|rM J J<|n_buildSliceL (xs := ([([120] : Str),([] : Str)]).map AV.str) J J J J J J<|bndE h fun v19 e17 h=>t_callv0 J J J (Stream_leaf_2x_c e17) (CoL.refl _) (.cons .p0 .nil) J J<|ARun.qv (n_build J J J J J) J<|n_store_ptr J J J J .p1 J J<|rN<|ATodo.ret<|?_
                obtain rfl := Option.some.inj h
                exact ImpX.nilBox (j := 10) 11 .p1 J J J<|ImpX.here ⟨_,.cons (.all _ _ _ _ _ _ J .p1 TUnder.h TInfo.h J J) .nil,_,.cons .p0 .nil,⟨J,J⟩⟩
              · refine have h := iteF hc h; tK<|ATodo.blk<|tS<|bndE h fun v20 e18 h=>ATodo.regionT (id := 18) (A := [0,0,3,0,0,31,63,127,255]) (H0 := [(b_0,.cells [.list 1 (v3.2.L.map I),I v3.2.at_])]) (HH := fun β=>[(b_0,.cells [.list 1 (v20.2.L.map I),I v20.2.at_]),(b2,.cells [I (0 : Int),.str [],.str [],I (0 : Int),.bool false,I (0 : Int),.str [],I (0 : Int),I (0 : Int),I (0 : Int),.nil])]) 5 mixed J (by kernel_rfl) (by kernel_rfl) [⟨none,some 2,[],fun _=>(b_0,.cells [.list 1 (v3.2.L.map I),I v3.2.at_]),none⟩,⟨some 2,none,[],fun _=>(b_0,.cells [.list 1 (v20.2.L.map I),I v20.2.at_]),none⟩] [] J (by kernel_rfl) J (.cons .p0 .nil) (fun _=>J)<|AT.am 2 J J<|AM.qv (q_load_rptr J J J) J<|AM.callp J (Q_Ops_c J) (CoL.refl _) J<|AM.nil<|AT.runS (av := .str v20.1) (Ti := [(b_0,.cells [.list 1 (v3.2.L.map I),I v3.2.at_])]) (Pi := [(b_0,.cells [.list 1 (v20.2.L.map I),I v20.2.at_])]) (fun _=>J) (fun _=>J) (fun _=>J) J J J ?_ ?_
                · exact t_call0 J (Stream_Some_c e18) (CoL.refl _) (.cons .p0 .nil) J J<|ARun.nil ⟨_,J,J⟩
                refine AT.am 2 J J<|AM.qv (q_load_rptr J J J) J<|AM.buildSliceL (xs := ([(0 : Int),(5 : Int),(6 : Int),(-5 : Int)]).map I) J J J J J J<|AM.nil<|AT.nilN (fun _=>J) fun β=>bndE h fun v21 e19 h=>t_call0 J (Stream_Pick_c e19) (CoL.refl _) (.cons .p0 .nil) J J<|ARun.qv (n_build J J J J J) J<|ARun.qv (n_build J J J J J) J<|n_store_ptr J J J J .p1 J J<|rN<|ATodo.ret<|?_
                obtain rfl := Option.some.inj h
                exact ImpX.nilBox (j := 10) 11 .p1 J J J<|ImpX.here ⟨_,.cons (.all _ _ _ _ _ _ J .p1 TUnder.h TInfo.h J J) .nil,_,.cons .p0 .nil,⟨J,J⟩⟩

theorem Stream_RightQuery_bd_c [GI : GTab] {b_0 : Bk} {self : Fleetmake_Stream → Int → Option (Query × Fleetmake_Stream)} (self_h : ∀ {b_0 : Bk} {p0x0 : Fleetmake_Stream} {p1x0 : Int} {r : Query × Fleetmake_Stream},self p0x0 p1x0 = some r → ACall Tryz.prog 112 [.ptr b_0 0,I p1x0] [(b_0,.cells [.list 1 (p0x0.L.map I),I p0x0.at_])] (T0 ([(b_0,.cells [.list 1 (r.2.L.map I),I r.2.at_])]) (.agg [I r.1.Kind,.str r.1.Field,.str r.1.Op,I r.1.Value.Kind,.bool r.1.Value.Flag,I r.1.Value.Number,.str r.1.Value.Words,I r.1.Version.Major,I r.1.Version.Minor,I r.1.Version.Patch,.list 11 (r.1.Kids.map Query.av)]))) {p0x0 : Fleetmake_Stream} {p1x0 : Int} {r : Query × Fleetmake_Stream} (h : Stream_RightQuery_bd self p0x0 p1x0 = some r) : ACall Tryz.prog 112 [.ptr b_0 0,I p1x0] [(b_0,.cells [.list 1 (p0x0.L.map I),I p0x0.at_])] (T0 ([(b_0,.cells [.list 1 (r.2.L.map I),I r.2.at_])]) (.agg [I r.1.Kind,.str r.1.Field,.str r.1.Op,I r.1.Value.Kind,.bool r.1.Value.Flag,I r.1.Value.Number,.str r.1.Value.Words,I r.1.Version.Major,I r.1.Version.Minor,I r.1.Version.Patch,.list 11 (r.1.Kids.map Query.av)])) := by
  unfold Stream_RightQuery_bd at h
  refine ACall.lessH ?_
  refine ACall.bodyN Tryz.func112 J Tryz.ntmps112 Tryz.results112 J J ?_
  refine tSR<|n_alloc J J J J fun b1=>rN<|tS<|tS<|ATodo.cut (fun σ'=>∃ (l2 : List Int) (n3 : Int) (c4 : Bool),Stream_RightQuery_j1 self p1x0 l2 n3 c4 = some r ∧ σ' = ⟨57,[(0,.ptr b_0 0),(1,I p1x0),(4,.ptr b1 0),(13,.bool c4)],[(b_0,.cells [.list 1 (l2.map I),I n3]),(b1,.cells [I (0 : Int),.str [],.str [],I (0 : Int),.bool false,I (0 : Int),.str [],I (0 : Int),I (0 : Int),I (0 : Int),.nil])]⟩) ?_ ?_
  · refine tR<|rM J J<|ARun.qv (q_eql J J) J<|rM J J<|ARun.guard_df J J J (fun hc=>?_) (fun hc=>?_)
    · exact have h := iteF hc h; rM J J<|rY J J J<|bndE h fun v5 e1 h=>t_call0 J (Stream_Flip_c e1) (CoL.refl _) (.cons .p1 .nil) J J<|rE J J J<|rN<|ATodo.stop<|ImpX.lq [0,0] ⟨v5.2.L,v5.2.at_,v5.1,h,J⟩ J J
    · exact have h := iteT hc h; rG J J J J<|rT J J J<|rN<|ATodo.stop<|ImpX.lq [1,0] ⟨p0x0.L,p0x0.at_,true,h,J⟩ J J
  · rintro σ' ⟨l2, n3, c4, h, rfl⟩
    unfold Stream_RightQuery_j1 at h
    refine ATodo.cond J (fun hc=>?_) (fun hc=>?_)
    · refine have h := iteT hc h; tSR<|rM J J<|bndE h fun v6 e2 h=>t_call0 J (Stream_leaf_c e2) (CoL.refl _) (.cons .p0 .nil) J J<|n_store_ptr J J J J .p1 J J<|rN<|ATodo.ret<|?_
      obtain rfl := Option.some.inj h
      exact ImpX.here ⟨_,.cons (.all _ _ _ _ _ _ J .p1 TUnder.h TInfo.h J J) .nil,_,.cons .p0 .nil,⟨J,J⟩⟩
    · refine have h := iteFb hc h; tK<|tSR<|rM J J<|n_buildSliceL (xs := ([(3 : Int),(4 : Int),(5 : Int)]).map I) J J J J J J<|bndE h fun v7 e3 h=>t_call0 J (Stream_Pick_c e3) (CoL.refl _) (.cons .p0 .nil) J J<|ARun.qv (n_build J J J J J) J<|n_alloc J J J J fun b8=>n_store_ptr J J J J .p0 J J<|rN<|tSR<|rA J J<|rN<|tS<|tSR<|rF J J J<|rL J J .p0 J J<|ARun.qv (q_neq J J) J<|rN<|ATodo.cut (fun σ'=>∃ (l9 : List Int) (n10 : Int) (n11 : Int),Stream_RightQuery_j2 self p1x0 v7 l9 n10 n11 = some r ∧ σ' = ⟨57,[(0,.ptr b_0 0),(1,I p1x0),(4,.ptr b1 0),(5,.ptr b8 0),(6,I n11)],[(b_0,.cells [.list 1 (l9.map I),I n10]),(b1,.cells [I (0 : Int),.str [],.str [],I (0 : Int),.bool false,I (0 : Int),.str [],I (0 : Int),I (0 : Int),I (0 : Int),.nil]),(b8,.cells [I v7.1,.str [],.str [],I (0 : Int),.bool false,I (0 : Int),.str [],I (0 : Int),I (0 : Int),I (0 : Int),.nil])]⟩) ?_ ?_
      · refine ATodo.cond_d J (fun hc=>?_) (fun hc=>?_)
        · exact have h := iteT hc h; tR<|rM J J<|n_buildSliceL (xs := ([(2 : Int),(2 : Int),(3 : Int)]).map I) J J J J J J<|bndE h fun v12 e4 h=>t_call0 J (Stream_Pick_c e4) (CoL.refl _) (.cons .p1 .nil) J J<|rA J J<|rN<|ATodo.stop<|ImpX.lq [0,1,0] ⟨v12.2.L,v12.2.at_,v12.1,h,J⟩ J J
        · exact have h := iteF hc h; tK<|ATodo.stop<|ImpX.lq [1,1,0] ⟨v7.2.L,v7.2.at_,(1 : Int),h,J⟩ J J
      · rintro σ' ⟨l9, n10, n11, h, rfl⟩
        unfold Stream_RightQuery_j2 at h
        refine tS<|tSR<|rM J J<|rM J J<|rN<|ATodo.block<|ATodo.loopI (fun x : (List Int) × Int × (List Query) × Int=>Stream_RightQuery_b1 self p1x0 v7 n11 x.1 x.2.1 x.2.2.1 x.2.2.2) (fun x σ'=>∃ (b20 : Bk),σ' = ⟨57,[(0,.ptr b_0 0),(1,I p1x0),(4,.ptr b1 0),(5,.ptr b8 0),(26,I n11),(27,I x.2.2.2)],[(b_0,.cells [.list 1 (x.1.map I),I x.2.1]),(b1,.cells [I (0 : Int),.str [],.str [],I (0 : Int),.bool false,I (0 : Int),.str [],I (0 : Int),I (0 : Int),I (0 : Int),.nil]),(b8,.cells [I v7.1,.str [],.str [],I (0 : Int),.bool false,I (0 : Int),.str [],I (0 : Int),I (0 : Int),I (0 : Int),.sl 11 b20 0 x.2.2.1.length]),(b20,.arr 11 (x.2.2.1.map Query.av))]⟩) h ?_ ?_
        · exact ImpX.arrBox (j := 10) 11 (fun _=>.p2) J (fun _=>J) (fun _=>J) fun b23=>ImpX.lq [1,1,1,0] ⟨b23,J⟩ J J
        · intro x z1 σ' J1 hmk h hJ1 hA1
          obtain ⟨l18, n19, l21, n22⟩ := x
          obtain ⟨b20, rfl⟩ := hmk
          replace h : Stream_RightQuery_b1 self p1x0 v7 n11 l18 n19 l21 n22 = some z1 := h
          unfold Stream_RightQuery_b1 at h
          refine tSR<|ARun.qv (q_lss J J) J<|rN<|tS<|ATodo.cond_d J (fun hc=>?_) (fun hc=>?_)
          · refine have h := iteT hc h; tK<|tS<|ATodo.block<|tSR<|rM J J<|rM J J<|ARun.qv (q_subw J J) J<|bndE h fun v24 e5 h=>t_call0 J (self_h e5) (CoL.refl _) (.cons .p0 .nil) J J<|n_alloc J J J J fun b25=>n_store_ptr J J J J .p0 J J<|rN<|tS<|ATodo.cut (fun σ'=>∃ (c26 : Bool),Stream_RightQuery_j3 l21 n22 v24 c26 = some z1 ∧ σ' = ⟨57,[(0,.ptr b_0 0),(1,I p1x0),(4,.ptr b1 0),(5,.ptr b8 0),(7,.ptr b25 0),(26,I n11),(27,I n22),(42,.bool c26)],[(b_0,.cells [.list 1 (v24.2.L.map I),I v24.2.at_]),(b1,.cells [I (0 : Int),.str [],.str [],I (0 : Int),.bool false,I (0 : Int),.str [],I (0 : Int),I (0 : Int),I (0 : Int),.nil]),(b8,.cells [I v7.1,.str [],.str [],I (0 : Int),.bool false,I (0 : Int),.str [],I (0 : Int),I (0 : Int),I (0 : Int),.sl 11 b20 0 l21.length]),(b20,.arr 11 (l21.map Query.av)),(b25,.cells [I v24.1.Kind,.str v24.1.Field,.str v24.1.Op,I v24.1.Value.Kind,.bool v24.1.Value.Flag,I v24.1.Value.Number,.str v24.1.Value.Words,I v24.1.Version.Major,I v24.1.Version.Minor,I v24.1.Version.Patch,.list 11 (v24.1.Kids.map Query.av)])]⟩) ?_ ?_
            · refine tR<|rF J J J<|rL J J .p0 J J<|rF J J J<|rL J J .p3 J J<|ARun.qv (q_eql J J) J<|rM J J<|ARun.guard_dt J J J (fun hc=>?_) (fun hc=>?_)
              · rw [andTd hc] at h
                exact rF J J J<|rY J J J<|rL J J .p3 J J<|rY J J J<|ARun.qv (q_neq J J) J<|rT J J J<|rN<|ATodo.stop<|ImpX.lq [1,1,1,1,0] ⟨decide (v7.1 ≠ (3 : Int)),h,J⟩ J J
              · rw [andFd hc] at h
                exact rG J J J J<|rG J J J J<|rE J J J<|rN<|ATodo.stop<|ImpX.lq [1,1,1,1,0] ⟨false,h,J⟩ J J
            · rintro σ' ⟨c26, h, rfl⟩
              unfold Stream_RightQuery_j3 at h
              refine ATodo.cut (fun σ'=>∃ (b27 : Bk) (l28 : List Query),Stream_RightQuery_j4 n22 v24 l28 = some z1 ∧ σ' = ⟨57,[(0,.ptr b_0 0),(1,I p1x0),(4,.ptr b1 0),(5,.ptr b8 0),(26,I n11),(27,I n22)],[(b_0,.cells [.list 1 (v24.2.L.map I),I v24.2.at_]),(b1,.cells [I (0 : Int),.str [],.str [],I (0 : Int),.bool false,I (0 : Int),.str [],I (0 : Int),I (0 : Int),I (0 : Int),.nil]),(b8,.cells [I v7.1,.str [],.str [],I (0 : Int),.bool false,I (0 : Int),.str [],I (0 : Int),I (0 : Int),I (0 : Int),.sl 11 b27 0 l28.length]),(b27,.arr 11 (l28.map Query.av))]⟩) ?_ ?_
              · refine ATodo.cond J (fun hc=>?_) (fun hc=>?_)
                · exact have h := iteT hc h; tR<|rF J J J<|rL J J .p2 J J<|rF J J J<|rL J J .p4 J J<|bndE h fun l29 e6 h=>t_append (g := Query.av) J J J J J J J J (.list _) e6 (fun _=>.p3) J fun b30=>rF J J J<|n_store_ptr J J J J .p2 J J<|rN<|ATodo.stop<|ImpX.lq [0,0,0,0] ⟨b30,l29,h,J⟩ J J
                · exact have h := iteFb hc h; tR<|rF J J J<|rL J J .p2 J J<|ARun.qv (q_load_ptr_all J J .p4 J) J<|n_buildSliceL (xs := ([v24.1] : List Query).map Query.av) J (by simp only [List.map_cons,List.map_nil,Query.av_eq]; rfl) J (by simp only [List.map_cons,List.map_nil,Query.av_eq]; rfl) J J<|bndE h fun l31 e7 h=>t_append (g := Query.av) J J J J J J J J (.list _) e7 (fun _=>.p3) J fun b32=>rF J J J<|n_store_ptr J J J J .p2 J J<|rN<|ATodo.stop<|ImpX.lq [0,0,0,0] ⟨b32,l31,h,J⟩ J J
              · rintro σ' ⟨b27, l28, h, rfl⟩
                unfold Stream_RightQuery_j4 at h
                refine ATodo.blk<|tR<|ARun.qv (q_addw J J) J<|rM J J<|rN<|ATodo.stop<|?_
                obtain rfl := Option.some.inj h
                exact hJ1 _ _ J<|ImpX.lq [0,0,0,0] ⟨b27,J⟩ J J
          · refine have h := iteF hc h; ATodo.exit J<|have h := outL h hA1; tSR<|ARun.qv (q_load_ptr_all J J .p2 J) J<|n_store_ptr J J J J .p1 J J<|rN<|ATodo.ret<|?_
            obtain rfl := Option.some.inj h
            exact ImpX.freeze .p3<|ImpX.coBox (j := 10) .p1 J (Co.froT .p3) J J<|ImpX.here ⟨_,.cons (.all _ _ _ _ _ _ J .p1 TUnder.h TInfo.h J J) .nil,_,.cons .p0 .nil,⟨J,J⟩⟩
theorem Stream_RightQuery_r_c [GI : GTab] : ∀ (k : Nat) {b_0 : Bk} {p0x0 : Fleetmake_Stream} {p1x0 : Int} {r : Query × Fleetmake_Stream},Stream_RightQuery_r k p0x0 p1x0 = some r → ACall Tryz.prog 112 [.ptr b_0 0,I p1x0] [(b_0,.cells [.list 1 (p0x0.L.map I),I p0x0.at_])] (T0 ([(b_0,.cells [.list 1 (r.2.L.map I),I r.2.at_])]) (.agg [I r.1.Kind,.str r.1.Field,.str r.1.Op,I r.1.Value.Kind,.bool r.1.Value.Flag,I r.1.Value.Number,.str r.1.Value.Words,I r.1.Version.Major,I r.1.Version.Minor,I r.1.Version.Patch,.list 11 (r.1.Kids.map Query.av)])) := by
  intro k
  induction k with
  | zero=>intro b_0 p0x0 p1x0 r h; cases h
  | succ k ih=>intro b_0 p0x0 p1x0 r h; exact Stream_RightQuery_bd_c ih h
theorem Stream_RightQuery_c [GI : GTab] {b_0 : Bk} {p0x0 : Fleetmake_Stream} {p1x0 : Int} {r : Query × Fleetmake_Stream} (h : Stream_RightQuery p0x0 p1x0 = some r) : ACall Tryz.prog 112 [.ptr b_0 0,I p1x0] [(b_0,.cells [.list 1 (p0x0.L.map I),I p0x0.at_])] (T0 ([(b_0,.cells [.list 1 (r.2.L.map I),I r.2.at_])]) (.agg [I r.1.Kind,.str r.1.Field,.str r.1.Op,I r.1.Value.Kind,.bool r.1.Value.Flag,I r.1.Value.Number,.str r.1.Value.Words,I r.1.Version.Major,I r.1.Version.Minor,I r.1.Version.Patch,.list 11 (r.1.Kids.map Query.av)])) := Stream_RightQuery_r_c depth h

theorem Stream_RightOrg_c [GI : GTab] {b_0 : Bk} {p0x0 : Fleetmake_Stream} {r : Org × Fleetmake_Stream} (h : Stream_RightOrg p0x0 = some r) : ACall Tryz.prog 53 [.ptr b_0 0] [(b_0,.cells [.list 1 (p0x0.L.map I),I p0x0.at_])] (T4 (fun d_0x0 d_0x1 d_0x2 d_0x3=>[(b_0,.cells [.list 1 (r.2.L.map I),I r.2.at_]),(d_0x0,.arr 2 (r.1.Tenants.map Tenant.av)),(d_0x1,.arr 2 (r.1.Roles.map Role.av)),(d_0x2,.arr 3 (r.1.Members.map Member.av)),(d_0x3,.arr 17 (r.1.Shares.map Share.av))]) (fun d_0x0 d_0x1 d_0x2 d_0x3=>.agg [.sl 2 d_0x0 0 r.1.Tenants.length,.sl 2 d_0x1 0 r.1.Roles.length,.sl 3 d_0x2 0 r.1.Members.length,.sl 17 d_0x3 0 r.1.Shares.length])) := by
  unfold Stream_RightOrg at h
  refine ACall.lessH ?_
  refine ACall.bodyN Tryz.func53 J Tryz.ntmps53 Tryz.results53 J J ?_
  refine tSR<|n_alloc J J J J fun b1=>rN<|tSR<|ARun.qv (n_build J J J J J) J<|ARun.qv (n_build J J J J J) J<|rM J J<|n_buildSliceL (xs := ([([116,98] : Str),([116,97] : Str),([] : Str)]).map AV.str) J J J J J J<|bndE h fun v2 e1 h=>t_call0 J (Stream_Some_c e1) (CoL.refl _) (.cons .p1 .nil) J J<|ARun.qv (n_build J J J J J) J<|ARun.qv (n_build J J J J J) J<|n_buildSlice J J J J J J fun b3=>ARun.qv (n_build J J J J J) J<|n_alloc J J J J fun b4=>n_store_ptr J J J J .p0 J J<|rN<|tSR<|n_buildSliceL (xs := ([([42] : Str)]).map AV.str) J J J J J J<|ARun.qv (n_build J J J J J) J<|rM J J<|bndE h fun v5 e2 h=>t_call0 J (Stream_acts_c e2) (CoL.refl _) (.cons .p2 .nil) J J<|ARun.qv (n_build J J J J J) J<|n_buildSliceL (xs := ([([100,101,118,105,99,101,46,114,101,97,100] : Str)]).map AV.str) J J J J J J<|ARun.qv (n_build J J J J J) J<|n_buildSlice J J J J J J fun b6=>rF J J J<|n_store_ptr J J J J .p2 J J<|rN<|tS<|tSR<|n_buildSliceL (xs := ([([97,110,110] : Str),([98,111,98] : Str)]).map AV.str) J J J J J J<|ARun.qv (t_len J) J<|rM J J<|rN<|ATodo.block<|ATodo.loopI (fun x : (List Int) × Int × (List Member) × Int=>Stream_RightOrg_b1 v2 v5 x.1 x.2.1 x.2.2.1 x.2.2.2) (fun x σ'=>∃ (b14 : Bk),σ' = ⟨110,[(0,.ptr b_0 0),(2,.ptr b1 0),(3,.ptr b4 0),(32,.list 1 ([([97,110,110] : Str),([98,111,98] : Str)].map AV.str)),(33,I ([([97,110,110] : Str),([98,111,98] : Str)].length : Int)),(34,I x.2.2.2)],[(b_0,.cells [.list 1 (x.1.map I),I x.2.1]),(b1,.cells [.nil,.nil,.nil,.nil]),(b4,.cells [.sl 2 b3 0 [(⟨([116,97] : Str),[]⟩ : Tenant),(⟨([116,98] : Str),([116,97] : Str)⟩ : Tenant),(⟨([116,99] : Str),v2.1⟩ : Tenant),(⟨([116,100] : Str),[]⟩ : Tenant)].length,.sl 2 b6 0 [(⟨([97,100,109,105,110] : Str),[([42] : Str)]⟩ : Role),(⟨([101,100,105,116] : Str),v5.1⟩ : Role),(⟨([114,101,97,100] : Str),[([100,101,118,105,99,101,46,114,101,97,100] : Str)]⟩ : Role)].length,.sl 3 b14 0 x.2.2.1.length,.nil]),(b3,.arr 2 ([(⟨([116,97] : Str),[]⟩ : Tenant),(⟨([116,98] : Str),([116,97] : Str)⟩ : Tenant),(⟨([116,99] : Str),v2.1⟩ : Tenant),(⟨([116,100] : Str),[]⟩ : Tenant)].map Tenant.av)),(b6,.arr 2 ([(⟨([97,100,109,105,110] : Str),[([42] : Str)]⟩ : Role),(⟨([101,100,105,116] : Str),v5.1⟩ : Role),(⟨([114,101,97,100] : Str),[([100,101,118,105,99,101,46,114,101,97,100] : Str)]⟩ : Role)].map Role.av)),(b14,.arr 3 (x.2.2.1.map Member.av))]⟩) h ?_ ?_
  · exact ImpX.arrBox (j := 2) 3 (fun _=>.p2) J (fun _=>J) (fun _=>J) fun b17=>ImpX.lq [2,4,2,2,1,0] ⟨b17,J⟩ J J
  · intro x z1 σ' J1 hmk h hJ1 hA1
    obtain ⟨l12, n13, l15, n16⟩ := x
    obtain ⟨b14, rfl⟩ := hmk
    replace h : Stream_RightOrg_b1 v2 v5 l12 n13 l15 n16 = some z1 := h
    unfold Stream_RightOrg_b1 at h
    refine tSR<|ARun.qv (q_lss J J) J<|rN<|tS<|ATodo.cond_d J (fun hc=>?_) (fun hc=>?_)
    · refine have h := iteT hc h; tK<|tS<|ATodo.block<|tSR<|bndE h fun v18 e3 h=>ARun.qv (t_index J J J e3 J J) J<|ARun.qv (q_load_rptr J J J) J<|rA J J<|rN<|tSR<|n_buildSliceL (xs := ([([116,97] : Str),([116,98] : Str),([116,99] : Str),([116,100] : Str)]).map AV.str) J J J J J J<|ARun.qv (t_len J) J<|rM J J<|rN<|ATodo.block<|ATodo.loopI (fun x : (List Int) × Int × (List Member) × Int=>Stream_RightOrg_b2 n16 v18 x.1 x.2.1 x.2.2.1 x.2.2.2) (fun x σ'=>∃ (b26 : Bk),σ' = ⟨110,[(0,.ptr b_0 0),(2,.ptr b1 0),(3,.ptr b4 0),(5,.str v18),(32,.list 1 ([([97,110,110] : Str),([98,111,98] : Str)].map AV.str)),(33,I ([([97,110,110] : Str),([98,111,98] : Str)].length : Int)),(34,I n16),(38,.list 1 ([([116,97] : Str),([116,98] : Str),([116,99] : Str),([116,100] : Str)].map AV.str)),(39,I ([([116,97] : Str),([116,98] : Str),([116,99] : Str),([116,100] : Str)].length : Int)),(40,I x.2.2.2)],[(b_0,.cells [.list 1 (x.1.map I),I x.2.1]),(b1,.cells [.nil,.nil,.nil,.nil]),(b4,.cells [.sl 2 b3 0 [(⟨([116,97] : Str),[]⟩ : Tenant),(⟨([116,98] : Str),([116,97] : Str)⟩ : Tenant),(⟨([116,99] : Str),v2.1⟩ : Tenant),(⟨([116,100] : Str),[]⟩ : Tenant)].length,.sl 2 b6 0 [(⟨([97,100,109,105,110] : Str),[([42] : Str)]⟩ : Role),(⟨([101,100,105,116] : Str),v5.1⟩ : Role),(⟨([114,101,97,100] : Str),[([100,101,118,105,99,101,46,114,101,97,100] : Str)]⟩ : Role)].length,.sl 3 b26 0 x.2.2.1.length,.nil]),(b3,.arr 2 ([(⟨([116,97] : Str),[]⟩ : Tenant),(⟨([116,98] : Str),([116,97] : Str)⟩ : Tenant),(⟨([116,99] : Str),v2.1⟩ : Tenant),(⟨([116,100] : Str),[]⟩ : Tenant)].map Tenant.av)),(b6,.arr 2 ([(⟨([97,100,109,105,110] : Str),[([42] : Str)]⟩ : Role),(⟨([101,100,105,116] : Str),v5.1⟩ : Role),(⟨([114,101,97,100] : Str),[([100,101,118,105,99,101,46,114,101,97,100] : Str)]⟩ : Role)].map Role.av)),(b26,.arr 3 (x.2.2.1.map Member.av))]⟩) h ?_ ?_
      · exact ImpX.lq [0,0,0,0,0,0] ⟨b14,J⟩ J J
      · intro x z2 σ' J2 hmk h hJ2 hA2
        obtain ⟨l24, n25, l27, n28⟩ := x
        obtain ⟨b26, rfl⟩ := hmk
        replace h : Stream_RightOrg_b2 n16 v18 l24 n25 l27 n28 = some z2 := h
        unfold Stream_RightOrg_b2 at h
        refine tSR<|ARun.qv (q_lss J J) J<|rN<|tS<|ATodo.cond_d J (fun hc=>?_) (fun hc=>?_)
        · refine have h := iteT hc h; tK<|tS<|ATodo.block<|tSR<|bndE h fun v29 e4 h=>ARun.qv (t_index J J J e4 J J) J<|ARun.qv (q_load_rptr J J J) J<|rA J J<|rN<|tSR<|n_buildSliceL (xs := ([([97,100,109,105,110] : Str),([101,100,105,116] : Str),([114,101,97,100] : Str)]).map AV.str) J J J J J J<|ARun.qv (t_len J) J<|rM J J<|rN<|ATodo.block<|ATodo.loopI (fun x : (List Int) × Int × (List Member) × Int=>Stream_RightOrg_b3 v18 n28 v29 x.1 x.2.1 x.2.2.1 x.2.2.2) (fun x σ'=>∃ (b37 : Bk),σ' = ⟨110,[(0,.ptr b_0 0),(2,.ptr b1 0),(3,.ptr b4 0),(5,.str v18),(7,.str v29),(32,.list 1 ([([97,110,110] : Str),([98,111,98] : Str)].map AV.str)),(33,I ([([97,110,110] : Str),([98,111,98] : Str)].length : Int)),(34,I n16),(38,.list 1 ([([116,97] : Str),([116,98] : Str),([116,99] : Str),([116,100] : Str)].map AV.str)),(39,I ([([116,97] : Str),([116,98] : Str),([116,99] : Str),([116,100] : Str)].length : Int)),(40,I n28),(44,.list 1 ([([97,100,109,105,110] : Str),([101,100,105,116] : Str),([114,101,97,100] : Str)].map AV.str)),(45,I ([([97,100,109,105,110] : Str),([101,100,105,116] : Str),([114,101,97,100] : Str)].length : Int)),(46,I x.2.2.2)],[(b_0,.cells [.list 1 (x.1.map I),I x.2.1]),(b1,.cells [.nil,.nil,.nil,.nil]),(b4,.cells [.sl 2 b3 0 [(⟨([116,97] : Str),[]⟩ : Tenant),(⟨([116,98] : Str),([116,97] : Str)⟩ : Tenant),(⟨([116,99] : Str),v2.1⟩ : Tenant),(⟨([116,100] : Str),[]⟩ : Tenant)].length,.sl 2 b6 0 [(⟨([97,100,109,105,110] : Str),[([42] : Str)]⟩ : Role),(⟨([101,100,105,116] : Str),v5.1⟩ : Role),(⟨([114,101,97,100] : Str),[([100,101,118,105,99,101,46,114,101,97,100] : Str)]⟩ : Role)].length,.sl 3 b37 0 x.2.2.1.length,.nil]),(b3,.arr 2 ([(⟨([116,97] : Str),[]⟩ : Tenant),(⟨([116,98] : Str),([116,97] : Str)⟩ : Tenant),(⟨([116,99] : Str),v2.1⟩ : Tenant),(⟨([116,100] : Str),[]⟩ : Tenant)].map Tenant.av)),(b6,.arr 2 ([(⟨([97,100,109,105,110] : Str),[([42] : Str)]⟩ : Role),(⟨([101,100,105,116] : Str),v5.1⟩ : Role),(⟨([114,101,97,100] : Str),[([100,101,118,105,99,101,46,114,101,97,100] : Str)]⟩ : Role)].map Role.av)),(b37,.arr 3 (x.2.2.1.map Member.av))]⟩) h ?_ ?_
          · exact ImpX.lq [0,0,0,0,0,0] ⟨b26,J⟩ J J
          · intro x z3 σ' J3 hmk h hJ3 hA3
            obtain ⟨l35, n36, l38, n39⟩ := x
            obtain ⟨b37, rfl⟩ := hmk
            replace h : Stream_RightOrg_b3 v18 n28 v29 l35 n36 l38 n39 = some z3 := h
            unfold Stream_RightOrg_b3 at h
            refine tSR<|ARun.qv (q_lss J J) J<|rN<|tS<|ATodo.cond_d J (fun hc=>?_) (fun hc=>?_)
            · refine have h := iteT hc h; tK<|tS<|ATodo.block<|tSR<|bndE h fun v40 e5 h=>ARun.qv (t_index J J J e5 J J) J<|ARun.qv (q_load_rptr J J J) J<|rA J J<|rN<|tSR<|rM J J<|bndE h fun v41 e6 h=>t_call0 J (Stream_Flip_c e6) (CoL.refl _) (.cons .p0 .nil) J J<|rN<|ATodo.cut (fun σ'=>∃ (b42 : Bk) (l43 : List Member),Stream_RightOrg_j1 n39 v41 l43 = some z3 ∧ σ' = ⟨110,[(0,.ptr b_0 0),(2,.ptr b1 0),(3,.ptr b4 0),(5,.str v18),(7,.str v29),(32,.list 1 ([([97,110,110] : Str),([98,111,98] : Str)].map AV.str)),(33,I ([([97,110,110] : Str),([98,111,98] : Str)].length : Int)),(34,I n16),(38,.list 1 ([([116,97] : Str),([116,98] : Str),([116,99] : Str),([116,100] : Str)].map AV.str)),(39,I ([([116,97] : Str),([116,98] : Str),([116,99] : Str),([116,100] : Str)].length : Int)),(40,I n28),(44,.list 1 ([([97,100,109,105,110] : Str),([101,100,105,116] : Str),([114,101,97,100] : Str)].map AV.str)),(45,I ([([97,100,109,105,110] : Str),([101,100,105,116] : Str),([114,101,97,100] : Str)].length : Int)),(46,I n39)],[(b_0,.cells [.list 1 (v41.2.L.map I),I v41.2.at_]),(b1,.cells [.nil,.nil,.nil,.nil]),(b4,.cells [.sl 2 b3 0 [(⟨([116,97] : Str),[]⟩ : Tenant),(⟨([116,98] : Str),([116,97] : Str)⟩ : Tenant),(⟨([116,99] : Str),v2.1⟩ : Tenant),(⟨([116,100] : Str),[]⟩ : Tenant)].length,.sl 2 b6 0 [(⟨([97,100,109,105,110] : Str),[([42] : Str)]⟩ : Role),(⟨([101,100,105,116] : Str),v5.1⟩ : Role),(⟨([114,101,97,100] : Str),[([100,101,118,105,99,101,46,114,101,97,100] : Str)]⟩ : Role)].length,.sl 3 b42 0 l43.length,.nil]),(b3,.arr 2 ([(⟨([116,97] : Str),[]⟩ : Tenant),(⟨([116,98] : Str),([116,97] : Str)⟩ : Tenant),(⟨([116,99] : Str),v2.1⟩ : Tenant),(⟨([116,100] : Str),[]⟩ : Tenant)].map Tenant.av)),(b6,.arr 2 ([(⟨([97,100,109,105,110] : Str),[([42] : Str)]⟩ : Role),(⟨([101,100,105,116] : Str),v5.1⟩ : Role),(⟨([114,101,97,100] : Str),[([100,101,118,105,99,101,46,114,101,97,100] : Str)]⟩ : Role)].map Role.av)),(b42,.arr 3 (l43.map Member.av))]⟩) ?_ ?_
              · refine ATodo.cond J (fun hc=>?_) (fun hc=>?_)
                · exact have h := iteT hc h; tR<|rF J J J<|rL J J .p2 J J<|rM J J<|rM J J<|rM J J<|ARun.qv (n_build J J J J J) J<|n_buildSliceL (xs := ([(⟨v18,v29,v40⟩ : Member)]).map Member.av) J J J J J J<|bndE h fun l44 e7 h=>t_append (g := Member.av) J J J J J J J J (.list _) e7 (fun _=>.p5) J fun b45=>rF J J J<|n_store_ptr J J J J .p2 J J<|rN<|ATodo.stop<|ImpX.lq [0,0,0,0,0,0] ⟨b45,l44,h,J⟩ J J
                · exact have h := iteFb hc h; tK<|ATodo.stop<|ImpX.lq [0,0,0,0,0,0] ⟨b37,l38,h,J⟩ J J
              · rintro σ' ⟨b42, l43, h, rfl⟩
                unfold Stream_RightOrg_j1 at h
                refine ATodo.blk<|tR<|ARun.qv (q_addw J J) J<|rM J J<|rN<|ATodo.stop<|?_
                obtain rfl := Option.some.inj h
                exact hJ3 _ _ J<|ImpX.lq [0,0,0,0,0,0] ⟨b42,J⟩ J J
            · refine have h := iteF hc h; ATodo.exit J<|have h := outL h hA3; ATodo.blk<|tR<|ARun.qv (q_addw J J) J<|rM J J<|rN<|ATodo.stop<|?_
              obtain rfl := Option.some.inj h
              exact hJ2 _ _ J<|ImpX.lq [0,0,0,0,0,0] ⟨b37,J⟩ J J
        · refine have h := iteF hc h; ATodo.exit J<|have h := outL h hA2; ATodo.blk<|tR<|ARun.qv (q_addw J J) J<|rM J J<|rN<|ATodo.stop<|?_
          obtain rfl := Option.some.inj h
          exact hJ1 _ _ J<|ImpX.lq [0,0,0,0,0,0] ⟨b26,J⟩ J J
    · refine have h := iteF hc h; ATodo.exit J<|have h := outL h hA1; tS<|tSR<|n_buildSliceL (xs := ([([115,97] : Str),([115,98] : Str)]).map AV.str) J J J J J J<|ARun.qv (t_len J) J<|rM J J<|rN<|ATodo.block<|ATodo.loopI (fun x : (List Int) × Int × (List Share) × Int=>Stream_RightOrg_b4 v2 v5 l15 x.1 x.2.1 x.2.2.1 x.2.2.2) (fun x σ'=>∃ (b53 : Bk),σ' = ⟨110,[(0,.ptr b_0 0),(2,.ptr b1 0),(3,.ptr b4 0),(64,.list 1 ([([115,97] : Str),([115,98] : Str)].map AV.str)),(65,I ([([115,97] : Str),([115,98] : Str)].length : Int)),(66,I x.2.2.2)],[(b_0,.cells [.list 1 (x.1.map I),I x.2.1]),(b1,.cells [.nil,.nil,.nil,.nil]),(b4,.cells [.sl 2 b3 0 [(⟨([116,97] : Str),[]⟩ : Tenant),(⟨([116,98] : Str),([116,97] : Str)⟩ : Tenant),(⟨([116,99] : Str),v2.1⟩ : Tenant),(⟨([116,100] : Str),[]⟩ : Tenant)].length,.sl 2 b6 0 [(⟨([97,100,109,105,110] : Str),[([42] : Str)]⟩ : Role),(⟨([101,100,105,116] : Str),v5.1⟩ : Role),(⟨([114,101,97,100] : Str),[([100,101,118,105,99,101,46,114,101,97,100] : Str)]⟩ : Role)].length,.sl 3 b14 0 l15.length,.sl 17 b53 0 x.2.2.1.length]),(b3,.arr 2 ([(⟨([116,97] : Str),[]⟩ : Tenant),(⟨([116,98] : Str),([116,97] : Str)⟩ : Tenant),(⟨([116,99] : Str),v2.1⟩ : Tenant),(⟨([116,100] : Str),[]⟩ : Tenant)].map Tenant.av)),(b6,.arr 2 ([(⟨([97,100,109,105,110] : Str),[([42] : Str)]⟩ : Role),(⟨([101,100,105,116] : Str),v5.1⟩ : Role),(⟨([114,101,97,100] : Str),[([100,101,118,105,99,101,46,114,101,97,100] : Str)]⟩ : Role)].map Role.av)),(b14,.arr 3 (l15.map Member.av)),(b53,.arr 17 (x.2.2.1.map Share.av))]⟩) h ?_ ?_
      · exact ImpX.arrBox (j := 3) 17 (fun _=>.p2) J (fun _=>J) (fun _=>J) fun b56=>ImpX.lq [1,1,1,1,1,1,0] ⟨b56,J⟩ J J
      · intro x z4 σ' J4 hmk h hJ4 hA4
        obtain ⟨l51, n52, l54, n55⟩ := x
        obtain ⟨b53, rfl⟩ := hmk
        replace h : Stream_RightOrg_b4 v2 v5 l15 l51 n52 l54 n55 = some z4 := h
        unfold Stream_RightOrg_b4 at h
        refine tSR<|ARun.qv (q_lss J J) J<|rN<|tS<|ATodo.cond_d J (fun hc=>?_) (fun hc=>?_)
        · refine have h := iteT hc h; tK<|tS<|ATodo.block<|tSR<|bndE h fun v57 e8 h=>ARun.qv (t_index J J J e8 J J) J<|ARun.qv (q_load_rptr J J J) J<|rA J J<|rN<|tSR<|rM J J<|bndE h fun v58 e9 h=>t_call0 J (Stream_Flip_c e9) (CoL.refl _) (.cons .p0 .nil) J J<|rN<|ATodo.cut (fun σ'=>∃ (b61 : Bk) (l59 : List Int) (n60 : Int) (l62 : List Share),Stream_RightOrg_j2 n55 l59 n60 l62 = some z4 ∧ σ' = ⟨110,[(0,.ptr b_0 0),(2,.ptr b1 0),(3,.ptr b4 0),(64,.list 1 ([([115,97] : Str),([115,98] : Str)].map AV.str)),(65,I ([([115,97] : Str),([115,98] : Str)].length : Int)),(66,I n55)],[(b_0,.cells [.list 1 (l59.map I),I n60]),(b1,.cells [.nil,.nil,.nil,.nil]),(b4,.cells [.sl 2 b3 0 [(⟨([116,97] : Str),[]⟩ : Tenant),(⟨([116,98] : Str),([116,97] : Str)⟩ : Tenant),(⟨([116,99] : Str),v2.1⟩ : Tenant),(⟨([116,100] : Str),[]⟩ : Tenant)].length,.sl 2 b6 0 [(⟨([97,100,109,105,110] : Str),[([42] : Str)]⟩ : Role),(⟨([101,100,105,116] : Str),v5.1⟩ : Role),(⟨([114,101,97,100] : Str),[([100,101,118,105,99,101,46,114,101,97,100] : Str)]⟩ : Role)].length,.sl 3 b14 0 l15.length,.sl 17 b61 0 l62.length]),(b3,.arr 2 ([(⟨([116,97] : Str),[]⟩ : Tenant),(⟨([116,98] : Str),([116,97] : Str)⟩ : Tenant),(⟨([116,99] : Str),v2.1⟩ : Tenant),(⟨([116,100] : Str),[]⟩ : Tenant)].map Tenant.av)),(b6,.arr 2 ([(⟨([97,100,109,105,110] : Str),[([42] : Str)]⟩ : Role),(⟨([101,100,105,116] : Str),v5.1⟩ : Role),(⟨([114,101,97,100] : Str),[([100,101,118,105,99,101,46,114,101,97,100] : Str)]⟩ : Role)].map Role.av)),(b14,.arr 3 (l15.map Member.av)),(b61,.arr 17 (l62.map Share.av))]⟩) ?_ ?_
          · refine ATodo.cond J (fun hc=>?_) (fun hc=>?_)
            · refine have h := iteT hc h; tSR<|rM J J<|n_buildSliceL (xs := ([(0 : Int),(20 : Int),(50 : Int)]).map I) J J J J J J<|bndE h fun v63 e10 h=>t_call0 J (Stream_Pick_c e10) (CoL.refl _) (.cons .p0 .nil) J J<|rA J J<|rN<|tSR<|rM J J<|rM J J<|n_buildSliceL (xs := ([([116,97] : Str),([116,98] : Str)]).map AV.str) J J J J J J<|bndE h fun v64 e11 h=>t_call0 J (Stream_Some_c e11) (CoL.refl _) (.cons .p0 .nil) J J<|rM J J<|rM J J<|n_buildSliceL (xs := ([(0 : Int),(1 : Int)]).map I) J J J J J J<|bndE h fun v65 e12 h=>t_call0 J (Stream_Pick_c e12) (CoL.refl _) (.cons .p0 .nil) J J<|bndE h fun v66 e13 h=>t_call0 J (Stream_RightQuery_c e13) (CoL.refl _) (.cons .p0 .nil) J J<|rM J J<|bndE h fun v67 e14 h=>t_call0 J (Stream_acts_c e14) (CoL.refl _) (.cons .p0 .nil) J J<|rM J J<|rM J J<|rM J J<|n_buildSliceL (xs := ([(0 : Int),(30 : Int),(100 : Int)]).map I) J J J J J J<|bndE h fun v68 e15 h=>t_call0 J (Stream_Pick_c e15) (CoL.refl _) (.cons .p0 .nil) J J<|ARun.qv (q_addw J J) J<|ARun.qv (n_build J J J J J) J<|ARun.qv (n_build J J J J J) J<|n_alloc J J J J fun b69=>n_store_ptr J J J J .p0 J J<|rN<|tS<|tSR<|rM J J<|bndE h fun v70 e16 h=>t_call0 J (Stream_Flip_c e16) (CoL.refl _) (.cons .p1 .nil) J J<|rN<|ATodo.cut (fun σ'=>∃ (q71 : Str) (q72 : Str),Stream_RightOrg_j3 l54 n55 v57 v63 v66 v67 v68 v70 q71 q72 = some z4 ∧ σ' = ⟨110,[(0,.ptr b_0 0),(2,.ptr b1 0),(3,.ptr b4 0),(13,.ptr b69 0),(64,.list 1 ([([115,97] : Str),([115,98] : Str)].map AV.str)),(65,I ([([115,97] : Str),([115,98] : Str)].length : Int)),(66,I n55)],[(b_0,.cells [.list 1 (v70.2.L.map I),I v70.2.at_]),(b1,.cells [.nil,.nil,.nil,.nil]),(b4,.cells [.sl 2 b3 0 [(⟨([116,97] : Str),[]⟩ : Tenant),(⟨([116,98] : Str),([116,97] : Str)⟩ : Tenant),(⟨([116,99] : Str),v2.1⟩ : Tenant),(⟨([116,100] : Str),[]⟩ : Tenant)].length,.sl 2 b6 0 [(⟨([97,100,109,105,110] : Str),[([42] : Str)]⟩ : Role),(⟨([101,100,105,116] : Str),v5.1⟩ : Role),(⟨([114,101,97,100] : Str),[([100,101,118,105,99,101,46,114,101,97,100] : Str)]⟩ : Role)].length,.sl 3 b14 0 l15.length,.sl 17 b53 0 l54.length]),(b3,.arr 2 ([(⟨([116,97] : Str),[]⟩ : Tenant),(⟨([116,98] : Str),([116,97] : Str)⟩ : Tenant),(⟨([116,99] : Str),v2.1⟩ : Tenant),(⟨([116,100] : Str),[]⟩ : Tenant)].map Tenant.av)),(b6,.arr 2 ([(⟨([97,100,109,105,110] : Str),[([42] : Str)]⟩ : Role),(⟨([101,100,105,116] : Str),v5.1⟩ : Role),(⟨([114,101,97,100] : Str),[([100,101,118,105,99,101,46,114,101,97,100] : Str)]⟩ : Role)].map Role.av)),(b14,.arr 3 (l15.map Member.av)),(b53,.arr 17 (l54.map Share.av)),(b69,.cells [.str v57,.str q71,.str q72,I v66.1.Kind,.str v66.1.Field,.str v66.1.Op,I v66.1.Value.Kind,.bool v66.1.Value.Flag,I v66.1.Value.Number,.str v66.1.Value.Words,I v66.1.Version.Major,I v66.1.Version.Minor,I v66.1.Version.Patch,.list 11 (v66.1.Kids.map Query.av),.list 1 (v67.1.map AV.str),I v63.1,I (w64 (v63.1 + v68.1))])]⟩) ?_ ?_
              · refine ATodo.cond J (fun hc=>?_) (fun hc=>?_)
                · exact have h := iteT hc h; tR<|rF J J J<|rL J J .p1 J J<|rF J J J<|rL J J .p1 J J<|rF J J J<|n_store_ptr J J J J .p1 J J<|rF J J J<|n_store_ptr J J J J .p1 J J<|rN<|ATodo.stop<|ImpX.lq [0,1,1,1,1,1,1,0] ⟨([116,100] : Str),v64.1,h,J⟩ J J
                · exact have h := iteFb hc h; tK<|ATodo.stop<|ImpX.lq [0,1,1,1,1,1,1,0] ⟨v64.1,([116,100] : Str),h,J⟩ J J
              · rintro σ' ⟨q71, q72, h, rfl⟩
                unfold Stream_RightOrg_j3 at h
                exact tR<|rF J J J<|rL J J .p2 J J<|ARun.qv (q_load_ptr_all J J .p7 J) J<|n_buildSliceL (xs := ([(⟨v57,q71,q72,v66.1,v67.1,(⟨v63.1,w64 (v63.1 + v68.1)⟩ : Window)⟩ : Share)]).map Share.av) J J J J J J<|bndE h fun l73 e17 h=>t_append (g := Share.av) J J J J J J J J (.list _) e17 (fun _=>.p6) J fun b74=>rF J J J<|n_store_ptr J J J J .p2 J J<|rN<|ATodo.stop<|ImpX.lq [0,0,0,0,0,0,0] ⟨b74,v70.2.L,v70.2.at_,l73,h,J⟩ J J
            · exact have h := iteFb hc h; tK<|ATodo.stop<|ImpX.lq [0,0,0,0,0,0,0] ⟨b53,v58.2.L,v58.2.at_,l54,h,J⟩ J J
          · rintro σ' ⟨b61, l59, n60, l62, h, rfl⟩
            unfold Stream_RightOrg_j2 at h
            refine ATodo.blk<|tR<|ARun.qv (q_addw J J) J<|rM J J<|rN<|ATodo.stop<|?_
            obtain rfl := Option.some.inj h
            exact hJ4 _ _ J<|ImpX.lq [0,0,0,0,0,0,0] ⟨b61,J⟩ J J
        · refine have h := iteF hc h; ATodo.exit J<|have h := outL h hA4; tSR<|ARun.qv (q_load_ptr_all J J .p2 J) J<|n_store_ptr J J J J .p1 J J<|rN<|ATodo.ret<|?_
          obtain rfl := Option.some.inj h
          exact ImpX.here ⟨_,.cons (.all _ _ _ _ _ _ J .p1 TUnder.h TInfo.h J J) .nil,_,.cons .p0 (.cons .p2 (.cons .p2 (.cons .p2 (.cons .p2 .nil)))),⟨b3,b6,b14,b53,J,J⟩⟩

theorem Stream_Range_c [GI : GTab] {b_0 : Bk} {p0x0 : Fleetmake_Stream} {p1x0 : Int} {p2x0 : Int} {r : Int × Fleetmake_Stream} (h : Stream_Range p0x0 p1x0 p2x0 = some r) : ACall Tryz.prog 158 [.ptr b_0 0,I p1x0,I p2x0] [(b_0,.cells [.list 1 (p0x0.L.map I),I p0x0.at_])] (T0 ([(b_0,.cells [.list 1 (r.2.L.map I),I r.2.at_])]) (I r.1)) := by
  unfold Stream_Range at h
  refine ACall.lessH ?_
  refine ACall.bodyN Tryz.func158 J Tryz.ntmps158 Tryz.results158 J J ?_
  refine tSR<|rA J J<|rN<|tS<|tSR<|rM J J<|rM J J<|ARun.qv (q_lss J J) J<|rN<|ATodo.cond_d J (fun hc=>?_) (fun hc=>?_)
  · refine have h := iteT hc h; tSR<|rM J J<|rA J J<|rN<|ATodo.ret<|?_
    obtain rfl := Option.some.inj h
    exact ImpX.here ⟨_,.cons (.tmp _ _ J) .nil,_,.cons .p0 .nil,⟨J,J⟩⟩
  · refine have h := iteF hc h; tK<|tSR<|rM J J<|rM J J<|rM J J<|rM J J<|ARun.qv (q_subw J J) J<|ARun.qv (q_addw J J) J<|bndE h fun v1 e1 h=>t_call0 J (Stream_Next_c e1) (CoL.refl _) (.cons .p0 .nil) J J<|ARun.qv (q_addw J J) J<|rA J J<|rN<|ATodo.ret<|?_
    obtain rfl := Option.some.inj h
    exact ImpX.here ⟨_,.cons (.tmp _ _ J) .nil,_,.cons .p0 .nil,⟨J,J⟩⟩

theorem Stream_Odd_c [GI : GTab] {b_0 : Bk} {p0x0 : Fleetmake_Stream} {p1x0 : Int} {p2x0 : Int} {r : Int × Fleetmake_Stream} (h : Stream_Odd p0x0 p1x0 p2x0 = some r) : ACall Tryz.prog 84 [.ptr b_0 0,I p1x0,I p2x0] [(b_0,.cells [.list 1 (p0x0.L.map I),I p0x0.at_])] (T0 ([(b_0,.cells [.list 1 (r.2.L.map I),I r.2.at_])]) (I r.1)) := by
  unfold Stream_Odd at h
  refine ACall.lessH ?_
  refine ACall.bodyN Tryz.func84 J Tryz.ntmps84 Tryz.results84 J J ?_
  refine tSR<|rA J J<|rN<|tS<|tSR<|rM J J<|bndE h fun v1 e1 h=>t_call0 J (Stream_Flip_c e1) (CoL.refl _) (.cons .p0 .nil) J J<|rN<|ATodo.cond J (fun hc=>?_) (fun hc=>?_)
  · refine have h := iteT hc h; tSR<|rM J J<|rM J J<|ARun.qv (q_subw J J) J<|rM J J<|ARun.qv (q_addw J J) J<|rM J J<|rM J J<|n_buildSliceL (xs := ([w64 (p1x0 - (1 : Int)),w64 (p2x0 + (1 : Int)),p1x0,p2x0,(-1099511627776 : Int),(1099511627776 : Int)]).map I) J J J J J J<|bndE h fun v2 e2 h=>t_call0 J (Stream_Pick_c e2) (CoL.refl _) (.cons .p0 .nil) J J<|rA J J<|rN<|ATodo.ret<|?_
    obtain rfl := Option.some.inj h
    exact ImpX.here ⟨_,.cons (.tmp _ _ J) .nil,_,.cons .p0 .nil,⟨J,J⟩⟩
  · refine have h := iteFb hc h; tK<|tSR<|rM J J<|rM J J<|rM J J<|bndE h fun v3 e3 h=>t_call0 J (Stream_Range_c e3) (CoL.refl _) (.cons .p0 .nil) J J<|rA J J<|rN<|ATodo.ret<|?_
    obtain rfl := Option.some.inj h
    exact ImpX.here ⟨_,.cons (.tmp _ _ J) .nil,_,.cons .p0 .nil,⟨J,J⟩⟩

theorem slices_Clone_Query_Query_c [GI : GTab] {p0x0 : List Query} {r : (List Query)} (h : slices_Clone_Query_Query p0x0 = some r) : ACall Tryz.prog 113 [.list 11 (p0x0.map Query.av)] [] (T1 (fun d_0=>[(d_0,.arr 11 (r.map Query.av))]) (fun d_0=>.sl 11 d_0 0 r.length)) := by
  unfold slices_Clone_Query_Query at h
  refine ACall.lessH ?_
  refine ACall.bodyN Tryz.func113 J Tryz.ntmps113 Tryz.results113 J J ?_
  refine ATodo.seq ?_
  refine ATodo.region ?_
  refine ARun.qv (q_assign J) J ?_
  refine ARun.nil ?_
  refine ATodo.seq ?_
  refine ATodo.seq ?_
  refine ATodo.region ?_
  refine ARun.qv (q_move J) J ?_
  refine r_eqnil J J J J (fun c hc=>?_)
  refine ARun.nil ?_
  refine ATodo.cond J (fun hT=>?_) (fun hF=>?_)
  · obtain rfl := app_nil_some h (List.map_eq_nil_iff.1 (hc hT))
    refine ATodo.seq ?_
    refine ATodo.region ?_
    refine ARun.qv (q_assign J) J ?_
    refine ARun.nil ?_
    refine ATodo.ret ?_
    refine ImpX.arr (s := 2) 11 J (fun b1=>?_)
    exact ImpX.here ⟨_,.cons (.tmp _ _ J) .nil,_,.cons .here .nil,⟨b1,J,J⟩⟩
  · refine ATodo.skip ?_
    refine ATodo.seq ?_
    refine ATodo.region ?_
    refine n_buildSlice (xs := ([] : List Query).map Query.av) J J J J J J (fun b2=>?_)
    refine ARun.qv (q_move J) J ?_
    refine t_append (g := Query.av) (Xs := []) J J J J J J J J (.list _) h (fun _=>.here) J (fun b3=>?_)
    refine ARun.qv (q_assign J) J ?_
    refine ARun.nil ?_
    refine ATodo.ret ?_
    exact ImpX.here ⟨_,.cons (.tmp _ _ J) .nil,_,.cons .here .nil,⟨b3,J,J⟩⟩

theorem Stream_Query_c [GI : GTab] {b_0 : Bk} {p0x0 : Fleetmake_Stream} {r : Query × Fleetmake_Stream} (h : Stream_Query p0x0 = some r) : ACall Tryz.prog 43 [.ptr b_0 0] [(b_0,.cells [.list 1 (p0x0.L.map I),I p0x0.at_])] (T0 ([(b_0,.cells [.list 1 (r.2.L.map I),I r.2.at_])]) (.agg [I r.1.Kind,.str r.1.Field,.str r.1.Op,I r.1.Value.Kind,.bool r.1.Value.Flag,I r.1.Value.Number,.str r.1.Value.Words,I r.1.Version.Major,I r.1.Version.Minor,I r.1.Version.Patch,.list 11 (r.1.Kids.map Query.av)])) := by
  unfold Stream_Query at h
  refine ACall.lessH ?_
  refine ACall.bodyN Tryz.func43 J Tryz.ntmps43 Tryz.results43 J J ?_
  refine tSR<|n_alloc J J J J fun b1=>rN<|tSR<|rM J J<|rM J J<|n_buildSliceL (xs := ([(0 : Int),(1 : Int),(1 : Int),(2 : Int)]).map I) J J J J J J<|bndE h fun v2 e1 h=>t_call0 J (Stream_Pick_c e1) (CoL.refl _) (.cons .p1 .nil) J J<|bndE h fun v3 e2 h=>t_call0 J (Stream_RightQuery_c e2) (CoL.refl _) (.cons .p0 .nil) J J<|n_alloc J J J J fun b4=>n_store_ptr J J J J .p0 J J<|rN<|tS<|tSR<|rM J J<|bndE h fun v5 e3 h=>t_call0 J (Stream_Flip_c e3) (CoL.refl _) (.cons .p1 .nil) J J<|rN<|ATodo.cut (fun σ'=>∃ (l6 : List Int) (n7 : Int) (n8 : Int) (q9 : Str) (q10 : Str) (n11 : Int) (c12 : Bool) (n13 : Int) (q14 : Str) (n15 : Int) (n16 : Int) (n17 : Int) (l18 : List Query),Stream_Query_j1 l6 n7 n8 q9 q10 n11 c12 n13 q14 n15 n16 n17 l18 = some r ∧ σ' = ⟨63,[(2,.ptr b1 0),(3,.ptr b4 0)],[(b_0,.cells [.list 1 (l6.map I),I n7]),(b1,.cells [I (0 : Int),.str [],.str [],I (0 : Int),.bool false,I (0 : Int),.str [],I (0 : Int),I (0 : Int),I (0 : Int),.nil]),(b4,.cells [I n8,.str q9,.str q10,I n11,.bool c12,I n13,.str q14,I n15,I n16,I n17,.list 11 (l18.map Query.av)])]⟩) ?_ ?_
  · refine ATodo.cond J (fun hc=>?_) (fun hc=>?_)
    · refine have h := iteT hc h; tSR<|rM J J<|bndE h fun v19 e4 h=>t_call0 J (Stream_Next_c e4) (CoL.refl _) (.cons .p0 .nil) J J<|rN<|ATodo.block<|tSR<|ARun.qv (q_eql J J) J<|rA J J<|rN<|ATodo.cut (fun σ'=>∃ (l20 : List Int) (n21 : Int) (n22 : Int) (q23 : Str) (q24 : Str) (n25 : Int) (c26 : Bool) (n27 : Int) (q28 : Str) (n29 : Int) (n30 : Int) (n31 : Int) (l32 : List Query),Stream_Query_j2 l20 n21 n22 q23 q24 n25 c26 n27 q28 n29 n30 n31 l32 = some r ∧ σ' = ⟨63,[(2,.ptr b1 0),(3,.ptr b4 0)],[(b_0,.cells [.list 1 (l20.map I),I n21]),(b1,.cells [I (0 : Int),.str [],.str [],I (0 : Int),.bool false,I (0 : Int),.str [],I (0 : Int),I (0 : Int),I (0 : Int),.nil]),(b4,.cells [I n22,.str q23,.str q24,I n25,.bool c26,I n27,.str q28,I n29,I n30,I n31,.list 11 (l32.map Query.av)])]⟩) ?_ ?_
      · refine ATodo.cond_d J (fun hc=>?_) (fun hc=>?_)
        · exact have h := iteT hc h; tR<|rM J J<|bndE h fun v33 e5 h=>t_call0 J (Stream_Odd_c e5) (CoL.refl _) (.cons .p0 .nil) J J<|rF J J J<|n_store_ptr J J J J .p1 J J<|rN<|ATodo.stop<|ImpX.lq [0,1,0] ⟨v33.2.L,v33.2.at_,v33.1,v3.1.Field,v3.1.Op,v3.1.Value.Kind,v3.1.Value.Flag,v3.1.Value.Number,v3.1.Value.Words,v3.1.Version.Major,v3.1.Version.Minor,v3.1.Version.Patch,v3.1.Kids,h,J⟩ J J
        · refine have h := iteF hc h; tSR<|ARun.qv (q_eql J J) J<|rA J J<|rN<|ATodo.cut (fun σ'=>∃ (l34 : List Int) (n35 : Int) (n36 : Int) (q37 : Str) (q38 : Str) (n39 : Int) (c40 : Bool) (n41 : Int) (q42 : Str) (n43 : Int) (n44 : Int) (n45 : Int) (l46 : List Query),Stream_Query_j3 l34 n35 n36 q37 q38 n39 c40 n41 q42 n43 n44 n45 l46 = some r ∧ σ' = ⟨63,[(2,.ptr b1 0),(3,.ptr b4 0)],[(b_0,.cells [.list 1 (l34.map I),I n35]),(b1,.cells [I (0 : Int),.str [],.str [],I (0 : Int),.bool false,I (0 : Int),.str [],I (0 : Int),I (0 : Int),I (0 : Int),.nil]),(b4,.cells [I n36,.str q37,.str q38,I n39,.bool c40,I n41,.str q42,I n43,I n44,I n45,.list 11 (l46.map Query.av)])]⟩) ?_ ?_
          · refine ATodo.cond_d J (fun hc=>?_) (fun hc=>?_)
            · exact have h := iteT hc h; tR<|rM J J<|n_buildSliceL (xs := ([([] : Str),([110,111,112,101] : Str),([116,97,103,46] : Str),([116,97,103,46,65] : Str),([112,114,111,112,46,97,46] : Str),([107,101,121] : Str),([102,105,114,109,119,97,114,101] : Str)]).map AV.str) J J J J J J<|bndE h fun v47 e6 h=>t_call0 J (Stream_Some_c e6) (CoL.refl _) (.cons .p0 .nil) J J<|rF J J J<|n_store_ptr J J J J .p1 J J<|rN<|ATodo.stop<|ImpX.lq [0,1,0] ⟨v47.2.L,v47.2.at_,v3.1.Kind,v47.1,v3.1.Op,v3.1.Value.Kind,v3.1.Value.Flag,v3.1.Value.Number,v3.1.Value.Words,v3.1.Version.Major,v3.1.Version.Minor,v3.1.Version.Patch,v3.1.Kids,h,J⟩ J J
            · refine have h := iteF hc h; tSR<|ARun.qv (q_eql J J) J<|rA J J<|rN<|ATodo.cut (fun σ'=>∃ (l48 : List Int) (n49 : Int) (n50 : Int) (q51 : Str) (q52 : Str) (n53 : Int) (c54 : Bool) (n55 : Int) (q56 : Str) (n57 : Int) (n58 : Int) (n59 : Int) (l60 : List Query),Stream_Query_j4 l48 n49 n50 q51 q52 n53 c54 n55 q56 n57 n58 n59 l60 = some r ∧ σ' = ⟨63,[(2,.ptr b1 0),(3,.ptr b4 0)],[(b_0,.cells [.list 1 (l48.map I),I n49]),(b1,.cells [I (0 : Int),.str [],.str [],I (0 : Int),.bool false,I (0 : Int),.str [],I (0 : Int),I (0 : Int),I (0 : Int),.nil]),(b4,.cells [I n50,.str q51,.str q52,I n53,.bool c54,I n55,.str q56,I n57,I n58,I n59,.list 11 (l60.map Query.av)])]⟩) ?_ ?_
              · refine ATodo.cond_d J (fun hc=>?_) (fun hc=>?_)
                · exact have h := iteT hc h; tR<|rM J J<|n_buildSliceL (xs := ([([] : Str),([61] : Str),([60] : Str),([61,61] : Str)]).map AV.str) J J J J J J<|bndE h fun v61 e7 h=>t_call0 J (Stream_Some_c e7) (CoL.refl _) (.cons .p0 .nil) J J<|rF J J J<|n_store_ptr J J J J .p1 J J<|rN<|ATodo.stop<|ImpX.lq [0,1,0] ⟨v61.2.L,v61.2.at_,v3.1.Kind,v3.1.Field,v61.1,v3.1.Value.Kind,v3.1.Value.Flag,v3.1.Value.Number,v3.1.Value.Words,v3.1.Version.Major,v3.1.Version.Minor,v3.1.Version.Patch,v3.1.Kids,h,J⟩ J J
                · refine have h := iteF hc h; tSR<|ARun.qv (q_eql J J) J<|rA J J<|rN<|ATodo.cut (fun σ'=>∃ (l62 : List Int) (n63 : Int) (n64 : Int) (q65 : Str) (q66 : Str) (n67 : Int) (c68 : Bool) (n69 : Int) (q70 : Str) (n71 : Int) (n72 : Int) (n73 : Int) (l74 : List Query),Stream_Query_j5 l62 n63 n64 q65 q66 n67 c68 n69 q70 n71 n72 n73 l74 = some r ∧ σ' = ⟨63,[(2,.ptr b1 0),(3,.ptr b4 0)],[(b_0,.cells [.list 1 (l62.map I),I n63]),(b1,.cells [I (0 : Int),.str [],.str [],I (0 : Int),.bool false,I (0 : Int),.str [],I (0 : Int),I (0 : Int),I (0 : Int),.nil]),(b4,.cells [I n64,.str q65,.str q66,I n67,.bool c68,I n69,.str q70,I n71,I n72,I n73,.list 11 (l74.map Query.av)])]⟩) ?_ ?_
                  · refine ATodo.cond_d J (fun hc=>?_) (fun hc=>?_)
                    · exact have h := iteT hc h; tR<|ARun.qv (n_build J J J J J) J<|ARun.qv (n_build J J J J J) J<|ARun.qv (n_build J J J J J) J<|ARun.qv (n_build J J J J J) J<|ARun.qv (n_build J J J J J) J<|n_buildSliceL (xs := ([(⟨(0 : Int),false,(0 : Int),[]⟩ : ValueS),(⟨(9 : Int),false,(0 : Int),[]⟩ : ValueS),(⟨(1 : Int),false,(1 : Int),[]⟩ : ValueS),(⟨(3 : Int),false,(0 : Int),([255] : Str)⟩ : ValueS),(⟨(2 : Int),false,(1000000001 : Int),[]⟩ : ValueS)]).map ValueS.av) J J J J J J<|rM J J<|bndE h fun v75 e8 h=>t_call0 J (Stream_Next_c e8) (CoL.refl _) (.cons .p0 .nil) J J<|bndE h fun v76 e9 h=>ARun.qv (t_index J J J e9 J J) J<|ARun.qv (q_load_rptr_agg J J J) J<|rF J J J<|n_store_ptr J J J J .p1 J J<|rN<|ATodo.stop<|ImpX.lq [0,1,0] ⟨v75.2.L,v75.2.at_,v3.1.Kind,v3.1.Field,v3.1.Op,v76.Kind,v76.Flag,v76.Number,v76.Words,v3.1.Version.Major,v3.1.Version.Minor,v3.1.Version.Patch,v3.1.Kids,h,J⟩ J J
                    · refine have h := iteF hc h; tSR<|ARun.qv (q_eql J J) J<|rA J J<|rN<|ATodo.cut (fun σ'=>∃ (l77 : List Int) (n78 : Int) (n79 : Int) (q80 : Str) (q81 : Str) (n82 : Int) (c83 : Bool) (n84 : Int) (q85 : Str) (n86 : Int) (n87 : Int) (n88 : Int) (l89 : List Query),Stream_Query_j6 l77 n78 n79 q80 q81 n82 c83 n84 q85 n86 n87 n88 l89 = some r ∧ σ' = ⟨63,[(2,.ptr b1 0),(3,.ptr b4 0)],[(b_0,.cells [.list 1 (l77.map I),I n78]),(b1,.cells [I (0 : Int),.str [],.str [],I (0 : Int),.bool false,I (0 : Int),.str [],I (0 : Int),I (0 : Int),I (0 : Int),.nil]),(b4,.cells [I n79,.str q80,.str q81,I n82,.bool c83,I n84,.str q85,I n86,I n87,I n88,.list 11 (l89.map Query.av)])]⟩) ?_ ?_
                      · refine ATodo.cond_d J (fun hc=>?_) (fun hc=>?_)
                        · exact have h := iteT hc h; tR<|rF J J J<|rL J J .p1 J J<|bndE h fun v90 e10 h=>t_call1 J (slices_Clone_Query_Query_c e10) (CoL.refl _) .nil (fun _=>J) J fun b91=>rM J J<|bndE h fun v92 e11 h=>t_call0 J (Stream_leaf_c e11) (CoL.refl _) (.cons .p1 .nil) J J<|n_buildSliceL (xs := ([v92.1] : List Query).map Query.av) J (by simp only [List.map_cons,List.map_nil,Query.av_eq]; rfl) J (by simp only [List.map_cons,List.map_nil,Query.av_eq]; rfl) J J<|bndE h fun l93 e12 h=>t_append (g := Query.av) J J J J J J J J (.list _) e12 (fun _=>.p1) J fun b94=>rF J J J<|n_store_ptr J J J J .p2 J J<|rN<|ATodo.stop<|ImpX.freeze .p1<|ImpX.coBox (j := 10) .p2 J (Co.froT .p1) J J<|ImpX.lq [0,2,1] ⟨v92.2.L,v92.2.at_,v3.1.Kind,v3.1.Field,v3.1.Op,v3.1.Value.Kind,v3.1.Value.Flag,v3.1.Value.Number,v3.1.Value.Words,v3.1.Version.Major,v3.1.Version.Minor,v3.1.Version.Patch,l93,h,J⟩ J J
                        · refine have h := iteF hc h; tSR<|rM J J<|n_buildSliceL (xs := ([(18 : Int),(19 : Int),(20 : Int)]).map I) J J J J J J<|bndE h fun v95 e13 h=>t_call0 J (Stream_Pick_c e13) (CoL.refl _) (.cons .p0 .nil) J J<|rM J J<|rN<|ATodo.block<|ATodo.loopI (fun x : Int × Str × Str × Int × Bool × Int × Str × Int × Int × Int × (List Query) × Int=>Stream_Query_b1 v95 x.1 x.2.1 x.2.2.1 x.2.2.2.1 x.2.2.2.2.1 x.2.2.2.2.2.1 x.2.2.2.2.2.2.1 x.2.2.2.2.2.2.2.1 x.2.2.2.2.2.2.2.2.1 x.2.2.2.2.2.2.2.2.2.1 x.2.2.2.2.2.2.2.2.2.2.1 x.2.2.2.2.2.2.2.2.2.2.2) (fun x σ'=>σ' = ⟨63,[(2,.ptr b1 0),(3,.ptr b4 0),(15,I v95.1),(16,I x.2.2.2.2.2.2.2.2.2.2.2)],[(b_0,.cells [.list 1 (v95.2.L.map I),I v95.2.at_]),(b1,.cells [I (0 : Int),.str [],.str [],I (0 : Int),.bool false,I (0 : Int),.str [],I (0 : Int),I (0 : Int),I (0 : Int),.nil]),(b4,.cells [I x.1,.str x.2.1,.str x.2.2.1,I x.2.2.2.1,.bool x.2.2.2.2.1,I x.2.2.2.2.2.1,.str x.2.2.2.2.2.2.1,I x.2.2.2.2.2.2.2.1,I x.2.2.2.2.2.2.2.2.1,I x.2.2.2.2.2.2.2.2.2.1,.list 11 (x.2.2.2.2.2.2.2.2.2.2.1.map Query.av)])]⟩) h ?_ ?_
                          · exact ImpX.lq [0,1,0] J J J
                          · intro x z1 σ' J1 hmk h hJ1 hA1
                            obtain ⟨n108, q109, q110, n111, c112, n113, q114, n115, n116, n117, l118, n119⟩ := x
                            obtain rfl := hmk
                            replace h : Stream_Query_b1 v95 n108 q109 q110 n111 c112 n113 q114 n115 n116 n117 l118 n119 = some z1 := h
                            unfold Stream_Query_b1 at h
                            refine tSR<|ARun.qv (q_lss J J) J<|rN<|tS<|ATodo.cond_d J (fun hc=>?_) (fun hc=>?_)
                            · refine have h := iteT hc h; tK<|tS<|ATodo.block<|tR<|ARun.qv (q_load_ptr_all J J .p2 J) J<|n_buildSliceL (xs := ([(⟨n108,q109,q110,(⟨n111,c112,n113,q114⟩ : ValueS),(⟨n115,n116,n117⟩ : Version),l118⟩ : Query)]).map Query.av) J (by simp only [List.map_cons,List.map_nil,Query.av_eq]; rfl) J (by simp only [List.map_cons,List.map_nil,Query.av_eq]; rfl) J J<|ARun.qv (n_build J J J J J) J<|n_store_ptr J J J J .p2 J J<|rN<|ATodo.blk<|tR<|ARun.qv (q_addw J J) J<|rM J J<|rN<|ATodo.stop<|?_
                              obtain rfl := Option.some.inj h
                              exact hJ1 _ _ J<|ImpX.lq [0,0,0] J J J
                            · exact have h := iteF hc h; ATodo.exit J<|have h := outL h hA1; ATodo.stop<|ImpX.lq [0,0,0] ⟨v95.2.L,v95.2.at_,n108,q109,q110,n111,c112,n113,q114,n115,n116,n117,l118,h,J⟩ J J
                      · rintro σ' ⟨l77, n78, n79, q80, q81, n82, c83, n84, q85, n86, n87, n88, l89, h, rfl⟩
                        unfold Stream_Query_j6 at h
                        exact ATodo.stop<|ImpX.lq [0,0,0] ⟨l77,n78,n79,q80,q81,n82,c83,n84,q85,n86,n87,n88,l89,h,J⟩ J J
                  · rintro σ' ⟨l62, n63, n64, q65, q66, n67, c68, n69, q70, n71, n72, n73, l74, h, rfl⟩
                    unfold Stream_Query_j5 at h
                    exact ATodo.stop<|ImpX.lq [0,0,0] ⟨l62,n63,n64,q65,q66,n67,c68,n69,q70,n71,n72,n73,l74,h,J⟩ J J
              · rintro σ' ⟨l48, n49, n50, q51, q52, n53, c54, n55, q56, n57, n58, n59, l60, h, rfl⟩
                unfold Stream_Query_j4 at h
                exact ATodo.stop<|ImpX.lq [0,0,0] ⟨l48,n49,n50,q51,q52,n53,c54,n55,q56,n57,n58,n59,l60,h,J⟩ J J
          · rintro σ' ⟨l34, n35, n36, q37, q38, n39, c40, n41, q42, n43, n44, n45, l46, h, rfl⟩
            unfold Stream_Query_j3 at h
            exact ATodo.stop<|ImpX.lq [0,0,0] ⟨l34,n35,n36,q37,q38,n39,c40,n41,q42,n43,n44,n45,l46,h,J⟩ J J
      · rintro σ' ⟨l20, n21, n22, q23, q24, n25, c26, n27, q28, n29, n30, n31, l32, h, rfl⟩
        unfold Stream_Query_j2 at h
        exact ATodo.blk<|ATodo.stop<|ImpX.lq [0,0,0] ⟨l20,n21,n22,q23,q24,n25,c26,n27,q28,n29,n30,n31,l32,h,J⟩ J J
    · exact have h := iteFb hc h; tK<|ATodo.stop<|ImpX.lq [0,1,0] ⟨v5.2.L,v5.2.at_,v3.1.Kind,v3.1.Field,v3.1.Op,v3.1.Value.Kind,v3.1.Value.Flag,v3.1.Value.Number,v3.1.Value.Words,v3.1.Version.Major,v3.1.Version.Minor,v3.1.Version.Patch,v3.1.Kids,h,J⟩ J J
  · rintro σ' ⟨l6, n7, n8, q9, q10, n11, c12, n13, q14, n15, n16, n17, l18, h, rfl⟩
    unfold Stream_Query_j1 at h
    refine tSR<|ARun.qv (q_load_ptr_all J J .p2 J) J<|n_store_ptr J J J J .p1 J J<|rN<|ATodo.ret<|?_
    obtain rfl := Option.some.inj h
    exact ImpX.here ⟨_,.cons (.all _ _ _ _ _ _ J .p1 TUnder.h TInfo.h J J) .nil,_,.cons .p0 .nil,⟨J,J⟩⟩

theorem Stream_Span_c [GI : GTab] {b_0 : Bk} {p0x0 : Fleetmake_Stream} {r : Window × Fleetmake_Stream} (h : Stream_Span p0x0 = some r) : ACall Tryz.prog 56 [.ptr b_0 0] [(b_0,.cells [.list 1 (p0x0.L.map I),I p0x0.at_])] (T0 ([(b_0,.cells [.list 1 (r.2.L.map I),I r.2.at_])]) (.agg [I r.1.From,I r.1.To])) := by
  unfold Stream_Span at h
  refine ACall.lessH ?_
  refine ACall.bodyN Tryz.func56 J Tryz.ntmps56 Tryz.results56 J J ?_
  refine tSR<|n_alloc J J J J fun b1=>rN<|tSR<|rM J J<|n_buildSliceL (xs := ([(0 : Int),(5 : Int),(30 : Int),(100 : Int)]).map I) J J J J J J<|bndE h fun v2 e1 h=>t_call0 J (Stream_Pick_c e1) (CoL.refl _) (.cons .p1 .nil) J J<|rM J J<|n_buildSliceL (xs := ([(30 : Int),(100 : Int),(250 : Int),(1000 : Int),(345686400000 : Int)]).map I) J J J J J J<|bndE h fun v3 e2 h=>t_call0 J (Stream_Pick_c e2) (CoL.refl _) (.cons .p0 .nil) J J<|ARun.qv (n_build J J J J J) J<|n_alloc J J J J fun b4=>n_store_ptr J J J J .p0 J J<|rN<|tS<|tSR<|rM J J<|bndE h fun v5 e3 h=>t_call0 J (Stream_Flip_c e3) (CoL.refl _) (.cons .p1 .nil) J J<|rN<|ATodo.cut (fun σ'=>∃ (l6 : List Int) (n7 : Int) (n8 : Int) (n9 : Int),Stream_Span_j1 l6 n7 n8 n9 = some r ∧ σ' = ⟨21,[(2,.ptr b1 0),(3,.ptr b4 0)],[(b_0,.cells [.list 1 (l6.map I),I n7]),(b1,.cells [I (0 : Int),I (0 : Int)]),(b4,.cells [I n8,I n9])]⟩) ?_ ?_
  · refine ATodo.cond J (fun hc=>?_) (fun hc=>?_)
    · exact have h := iteT hc h; tR<|rM J J<|n_buildSliceL (xs := ([(-1 : Int),(10 : Int)]).map I) J J J J J J<|bndE h fun v10 e4 h=>t_call0 J (Stream_Pick_c e4) (CoL.refl _) (.cons .p0 .nil) J J<|rM J J<|n_buildSliceL (xs := ([(9 : Int),(345686400001 : Int)]).map I) J J J J J J<|bndE h fun v11 e5 h=>t_call0 J (Stream_Pick_c e5) (CoL.refl _) (.cons .p0 .nil) J J<|ARun.qv (n_build J J J J J) J<|n_store_ptr J J J J .p1 J J<|rN<|ATodo.stop<|ImpX.lq [0,1,0] ⟨v11.2.L,v11.2.at_,v10.1,v11.1,h,J⟩ J J
    · exact have h := iteFb hc h; tK<|ATodo.stop<|ImpX.lq [0,1,0] ⟨v5.2.L,v5.2.at_,v2.1,v3.1,h,J⟩ J J
  · rintro σ' ⟨l6, n7, n8, n9, h, rfl⟩
    unfold Stream_Span_j1 at h
    refine tSR<|ARun.qv (q_load_ptr_all J J .p2 J) J<|n_store_ptr J J J J .p1 J J<|rN<|ATodo.ret<|?_
    obtain rfl := Option.some.inj h
    exact ImpX.here ⟨_,.cons (.all _ _ _ _ _ _ J .p1 TUnder.h TInfo.h J J) .nil,_,.cons .p0 .nil,⟨J,J⟩⟩

theorem Stream_Org_c [GI : GTab] {b_0 : Bk} {p0x0 : Fleetmake_Stream} {r : Org × Fleetmake_Stream} (h : Stream_Org p0x0 = some r) : ACall Tryz.prog 6 [.ptr b_0 0] [(b_0,.cells [.list 1 (p0x0.L.map I),I p0x0.at_])] (T0 ([(b_0,.cells [.list 1 (r.2.L.map I),I r.2.at_])]) (.agg [.list 2 (r.1.Tenants.map Tenant.av),.list 2 (r.1.Roles.map Role.av),.list 3 (r.1.Members.map Member.av),.list 17 (r.1.Shares.map Share.av)])) := by
  unfold Stream_Org at h
  refine ACall.lessH ?_
  refine ACall.bodyN Tryz.func6 J Tryz.ntmps6 Tryz.results6 J J ?_
  refine tSR<|n_alloc J J J J fun b1=>rN<|tSR<|rM J J<|bndE h fun v2 e1 h=>t_call4 J (Stream_RightOrg_c e1) (CoL.refl _) (.cons .p1 .nil) (fun _ _ _ _=>J) J fun b3 b4 b5 b6=>n_alloc J J J J fun b7=>n_store_ptr J J J J .p0 J J<|rN<|tS<|tSR<|rM J J<|bndE h fun v8 e2 h=>t_call0 J (Stream_Flip_c e2) (CoL.refl _) (.cons .p1 .nil) J J<|rN<|ATodo.cut (fun σ'=>∃ (b11 : Bk) (b13 : Bk) (b15 : Bk) (b17 : Bk) (l9 : List Int) (n10 : Int) (l12 : List Tenant) (l14 : List Role) (l16 : List Member) (l18 : List Share),Stream_Org_j1 l9 n10 l12 l14 l16 l18 = some r ∧ σ' = ⟨112,[(2,.ptr b1 0),(3,.ptr b7 0)],[(b_0,.cells [.list 1 (l9.map I),I n10]),(b1,.cells [.nil,.nil,.nil,.nil]),(b7,.cells [.sl 2 b11 0 l12.length,.sl 2 b13 0 l14.length,.sl 3 b15 0 l16.length,.sl 17 b17 0 l18.length]),(b11,.arr 2 (l12.map Tenant.av)),(b13,.arr 2 (l14.map Role.av)),(b15,.arr 3 (l16.map Member.av)),(b17,.arr 17 (l18.map Share.av))]⟩) ?_ ?_
  · refine ATodo.cond J (fun hc=>?_) (fun hc=>?_)
    · refine have h := iteT hc h; tSR<|rM J J<|bndE h fun v19 e3 h=>t_call0 J (Stream_Next_c e3) (CoL.refl _) (.cons .p0 .nil) J J<|rN<|ATodo.block<|tSR<|ARun.qv (q_eql J J) J<|rA J J<|rN<|ATodo.cut (fun σ'=>∃ (b22 : Bk) (b24 : Bk) (b26 : Bk) (b28 : Bk) (l20 : List Int) (n21 : Int) (l23 : List Tenant) (l25 : List Role) (l27 : List Member) (l29 : List Share),Stream_Org_j2 l20 n21 l23 l25 l27 l29 = some r ∧ σ' = ⟨112,[(2,.ptr b1 0),(3,.ptr b7 0)],[(b_0,.cells [.list 1 (l20.map I),I n21]),(b1,.cells [.nil,.nil,.nil,.nil]),(b7,.cells [.sl 2 b22 0 l23.length,.sl 2 b24 0 l25.length,.sl 3 b26 0 l27.length,.sl 17 b28 0 l29.length]),(b22,.arr 2 (l23.map Tenant.av)),(b24,.arr 2 (l25.map Role.av)),(b26,.arr 3 (l27.map Member.av)),(b28,.arr 17 (l29.map Share.av))]⟩) ?_ ?_
      · refine ATodo.cond_d J (fun hc=>?_) (fun hc=>?_)
        · refine have h := iteT hc h; bndE h fun v30 e4 h=>bndE h fun v31 e5 h=>ATodo.regionT (id := 7) (A := [0,1,0,4,0,0,60,127,255,511]) (H0 := [(b_0,.cells [.list 1 (v19.2.L.map I),I v19.2.at_])]) (HH := fun β=>[(b_0,.cells [.list 1 (v31.2.L.map I),I v31.2.at_]),(b7,.cells [.sl 2 b3 0 v2.1.Tenants.length,.sl 2 b4 0 v2.1.Roles.length,.sl 3 b5 0 v2.1.Members.length,.sl 17 b6 0 v2.1.Shares.length]),(b3,.arr 2 (v2.1.Tenants.map Tenant.av)),(b4,.arr 2 (v2.1.Roles.map Role.av)),(b5,.arr 3 (v2.1.Members.map Member.av)),(b6,.arr 17 (v2.1.Shares.map Share.av)),(b1,.cells [.nil,.nil,.nil,.nil])]) 7 mixed J (by kernel_rfl) (by kernel_rfl) [⟨none,some 3,[],fun _=>(b_0,.cells [.list 1 (v19.2.L.map I),I v19.2.at_]),none⟩,⟨some 3,some 6,[],fun _=>(b_0,.cells [.list 1 (v30.2.L.map I),I v30.2.at_]),none⟩,⟨some 6,none,[],fun _=>(b_0,.cells [.list 1 (v31.2.L.map I),I v31.2.at_]),none⟩] [] J (by kernel_rfl) J (.cons .p0 .nil) (fun _=>J)<|AT.am 3 J J<|AM.qv (n_field_ptr J J) J<|AM.qv (q_load_ptr J J .p0 J) J<|AM.qv (q_move J) J<|AM.nil<|AT.runS (av := I v30.1) (Ti := [(b_0,.cells [.list 1 (v19.2.L.map I),I v19.2.at_])]) (Pi := [(b_0,.cells [.list 1 (v30.2.L.map I),I v30.2.at_])]) (fun _=>J) (fun _=>J) (fun _=>J) J J J ?_ ?_
          · exact t_call0 J (Stream_Next_c e4) (CoL.refl _) (.cons .p0 .nil) J J<|ARun.nil ⟨_,J,J⟩
          refine AT.am 2 J J<|AM.qv (q_move J) J<|AM.buildSliceL (xs := ([([116,99] : Str),([116,97] : Str),([110,111,110,101] : Str),([116,98] : Str)]).map AV.str) J J J J J J<|AM.nil<|AT.runS (av := .str v31.1) (Ti := [(b_0,.cells [.list 1 (v30.2.L.map I),I v30.2.at_])]) (Pi := [(b_0,.cells [.list 1 (v31.2.L.map I),I v31.2.at_])]) (fun _=>J) (fun _=>J) (fun _=>J) J J J ?_ ?_
          · exact t_call0 J (Stream_Some_c e5) (CoL.refl _) (.cons .p0 .nil) J J<|ARun.nil ⟨_,J,J⟩
          exact AT.nilN (fun _=>J) fun β=>bndE h fun v32 e6 h=>ARun.qv (t_index_sl J J J e6) J<|ARun.qv (t_field_aptr J J) J<|t_store_aptr1 (g := Tenant.av) (el' := (⟨v32.Key,v31.1⟩ : Tenant)) J J J J e6 J .p2 J<|ARun.ghost<|ImpX.eqs (s := 28) (av' := .sl 2 b3 0 (v2.1.Tenants.set v30.1.toNat (⟨v32.Key,v31.1⟩ : Tenant)).length) J (by rw [List.length_set])<|ImpX.here<|ARun.ghost<|ImpX.eqBox (j := 0) (av' := .sl 2 b3 0 (v2.1.Tenants.set v30.1.toNat (⟨v32.Key,v31.1⟩ : Tenant)).length) .p1 J (by rw [List.length_set]) J<|ImpX.here<|rN<|ATodo.stop<|ImpX.lq [0,5,0,0,0,0,0] ⟨b3,b4,b5,b6,v31.2.L,v31.2.at_,v2.1.Tenants.set v30.1.toNat (⟨v32.Key,v31.1⟩ : Tenant),v2.1.Roles,v2.1.Members,v2.1.Shares,h,J⟩ J J
        · refine have h := iteF hc h; tSR<|ARun.qv (q_eql J J) J<|rA J J<|rN<|ATodo.cut (fun σ'=>∃ (b35 : Bk) (b37 : Bk) (b39 : Bk) (b41 : Bk) (l33 : List Int) (n34 : Int) (l36 : List Tenant) (l38 : List Role) (l40 : List Member) (l42 : List Share),Stream_Org_j3 l33 n34 l36 l38 l40 l42 = some r ∧ σ' = ⟨112,[(2,.ptr b1 0),(3,.ptr b7 0)],[(b_0,.cells [.list 1 (l33.map I),I n34]),(b1,.cells [.nil,.nil,.nil,.nil]),(b7,.cells [.sl 2 b35 0 l36.length,.sl 2 b37 0 l38.length,.sl 3 b39 0 l40.length,.sl 17 b41 0 l42.length]),(b35,.arr 2 (l36.map Tenant.av)),(b37,.arr 2 (l38.map Role.av)),(b39,.arr 3 (l40.map Member.av)),(b41,.arr 17 (l42.map Share.av))]⟩) ?_ ?_
          · refine ATodo.cond_d J (fun hc=>?_) (fun hc=>?_)
            · refine have h := iteT hc h; bndE h fun v43 e7 h=>bndE h fun v44 e8 h=>ATodo.regionT (id := 9) (A := [0,1,0,0,12,0,0,124,252,508,1023,2047,4095]) (H0 := [(b_0,.cells [.list 1 (v19.2.L.map I),I v19.2.at_])]) (HH := fun β=>[(b_0,.cells [.list 1 (v44.2.L.map I),I v44.2.at_]),(b7,.cells [.sl 2 b3 0 v2.1.Tenants.length,.sl 2 b4 0 v2.1.Roles.length,.sl 3 b5 0 v2.1.Members.length,.sl 17 b6 0 v2.1.Shares.length]),(b3,.arr 2 (v2.1.Tenants.map Tenant.av)),(b4,.arr 2 (v2.1.Roles.map Role.av)),(b5,.arr 3 (v2.1.Members.map Member.av)),(b6,.arr 17 (v2.1.Shares.map Share.av)),(b1,.cells [.nil,.nil,.nil,.nil])]) 10 mixed J (by kernel_rfl) (by kernel_rfl) [⟨none,some 4,[],fun _=>(b_0,.cells [.list 1 (v19.2.L.map I),I v19.2.at_]),none⟩,⟨some 4,some 7,[],fun _=>(b_0,.cells [.list 1 (v43.2.L.map I),I v43.2.at_]),none⟩,⟨some 7,none,[],fun _=>(b_0,.cells [.list 1 (v44.2.L.map I),I v44.2.at_]),none⟩] [] J (by kernel_rfl) J (.cons .p0 .nil) (fun _=>J)<|AT.am 4 J J<|AM.qv (n_field_ptr J J) J<|AM.qv (q_load_ptr J J .p0 J) J<|AM.qv (q_move J) J<|AM.buildSliceL (xs := ([([] : Str),([116,97] : Str),([116,122] : Str)]).map AV.str) J J J J J J<|AM.nil<|AT.runS (av := .str v43.1) (Ti := [(b_0,.cells [.list 1 (v19.2.L.map I),I v19.2.at_])]) (Pi := [(b_0,.cells [.list 1 (v43.2.L.map I),I v43.2.at_])]) (fun _=>J) (fun _=>J) (fun _=>J) J J J ?_ ?_
              · exact t_call0 J (Stream_Some_c e7) (CoL.refl _) (.cons .p0 .nil) J J<|ARun.nil ⟨_,J,J⟩
              refine AT.am 2 J J<|AM.qv (q_move J) J<|AM.buildSliceL (xs := ([([] : Str),([116,100] : Str)]).map AV.str) J J J J J J<|AM.nil<|AT.runS (av := .str v44.1) (Ti := [(b_0,.cells [.list 1 (v43.2.L.map I),I v43.2.at_])]) (Pi := [(b_0,.cells [.list 1 (v44.2.L.map I),I v44.2.at_])]) (fun _=>J) (fun _=>J) (fun _=>J) J J J ?_ ?_
              · exact t_call0 J (Stream_Some_c e8) (CoL.refl _) (.cons .p0 .nil) J J<|ARun.nil ⟨_,J,J⟩
              exact AT.am 2 J J<|AM.qv (n_build J J J J J) J<|AM.buildSliceL (xs := ([(⟨v43.1,v44.1⟩ : Tenant)]).map Tenant.av) J J J J J J<|AM.nil<|AT.nilN (fun _=>J) fun β=>bndE h fun l45 e9 h=>t_append (g := Tenant.av) J J J J J J J J (.list _) e9 (fun _=>.p2) J fun b46=>rF J J J<|n_store_ptr J J J J .p1 J J<|rN<|ATodo.stop<|ImpX.lq [0,5,0,0,0,0,0] ⟨b46,b4,b5,b6,v44.2.L,v44.2.at_,l45,v2.1.Roles,v2.1.Members,v2.1.Shares,h,J⟩ J J
            · refine have h := iteF hc h; tSR<|ARun.qv (q_eql J J) J<|rA J J<|rN<|ATodo.cut (fun σ'=>∃ (b49 : Bk) (b51 : Bk) (b53 : Bk) (l47 : List Int) (n48 : Int) (l50 : List Role) (l52 : List Member) (l54 : List Share),Stream_Org_j4 v2 l47 n48 l50 l52 l54 = some r ∧ σ' = ⟨112,[(2,.ptr b1 0),(3,.ptr b7 0)],[(b_0,.cells [.list 1 (l47.map I),I n48]),(b1,.cells [.nil,.nil,.nil,.nil]),(b7,.cells [.sl 2 b3 0 v2.1.Tenants.length,.sl 2 b49 0 l50.length,.sl 3 b51 0 l52.length,.sl 17 b53 0 l54.length]),(b3,.arr 2 (v2.1.Tenants.map Tenant.av)),(b49,.arr 2 (l50.map Role.av)),(b51,.arr 3 (l52.map Member.av)),(b53,.arr 17 (l54.map Share.av))]⟩) ?_ ?_
              · refine ATodo.cond_d J (fun hc=>?_) (fun hc=>?_)
                · refine have h := iteT hc h; bndE h fun v55 e10 h=>bndE h fun v56 e11 h=>bndE h fun v57 e12 h=>ATodo.regionT (id := 11) (A := [0,1,0,0,12,0,0,0,0,0,992,0,2076,8188,16380,32764,65532,131071,262143,524287]) (H0 := [(b_0,.cells [.list 1 (v19.2.L.map I),I v19.2.at_])]) (HH := fun β=>[(b_0,.cells [.list 1 (v56.2.L.map I),I v56.2.at_]),(b7,.cells [.sl 2 b3 0 v2.1.Tenants.length,.sl 2 b4 0 v2.1.Roles.length,.sl 3 b5 0 v2.1.Members.length,.sl 17 b6 0 v2.1.Shares.length]),(b3,.arr 2 (v2.1.Tenants.map Tenant.av)),(b4,.arr 2 (v2.1.Roles.map Role.av)),(b5,.arr 3 (v2.1.Members.map Member.av)),(b6,.arr 17 (v2.1.Shares.map Share.av)),(b1,.cells [.nil,.nil,.nil,.nil])]) 17 mixed J (by kernel_rfl) (by kernel_rfl) [⟨none,some 4,[],fun _=>(b_0,.cells [.list 1 (v19.2.L.map I),I v19.2.at_]),none⟩,⟨some 4,some 12,[],fun _=>(b_0,.cells [.list 1 (v55.2.L.map I),I v55.2.at_]),none⟩,⟨some 12,none,[],fun _=>(b_0,.cells [.list 1 (v56.2.L.map I),I v56.2.at_]),none⟩] [] J (by kernel_rfl) J (.cons .p0 .nil) (fun _=>J)<|AT.am 4 J J<|AM.qv (n_field_ptr J J) J<|AM.qv (q_load_ptr J J .p0 J) J<|AM.qv (q_move J) J<|AM.buildSliceL (xs := ([([] : Str),([114,101,97,100] : Str),([122,122] : Str)]).map AV.str) J J J J J J<|AM.nil<|AT.runS (av := .str v55.1) (Ti := [(b_0,.cells [.list 1 (v19.2.L.map I),I v19.2.at_])]) (Pi := [(b_0,.cells [.list 1 (v55.2.L.map I),I v55.2.at_])]) (fun _=>J) (fun _=>J) (fun _=>J) J J J ?_ ?_
                  · exact t_call0 J (Stream_Some_c e10) (CoL.refl _) (.cons .p0 .nil) J J<|ARun.nil ⟨_,J,J⟩
                  refine AT.am 7 J J<|AM.buildSliceL (xs := ([([97,42] : Str)]).map AV.str) J J J J J J<|AM.buildSliceL (xs := ([([42,46,97] : Str)]).map AV.str) J J J J J J<|AM.buildSliceL (xs := ([([98] : Str),([97] : Str)]).map AV.str) J J J J J J<|AM.buildSliceL (xs := ([([97,46,98,46,99,46,100,46,101,46,102] : Str)]).map AV.str) J J J J J J<|AM.buildSliceL (xs := ([([97,46,42] : Str)]).map AV.str) J J J J J J<|AM.buildSliceX (xs := [.nil,.list 1 ([([97,42] : Str)].map AV.str),.list 1 ([([42,46,97] : Str)].map AV.str),.list 1 ([([98] : Str),([97] : Str)].map AV.str),.list 1 ([([97,46,98,46,99,46,100,46,101,46,102] : Str)].map AV.str),.list 1 ([([97,46,42] : Str)].map AV.str)]) (av := .list 1 (([[],[([97,42] : Str)],[([42,46,97] : Str)],[([98] : Str),([97] : Str)],[([97,46,98,46,99,46,100,46,101,46,102] : Str)],[([97,46,42] : Str)]] : List (List Str)).map (encL 1 AV.str))) J J J J J J (CoX.listL (.cons .n (.cons .r (.cons .r (.cons .r (.cons .r (.cons .r .nil)))))) J J)<|AM.qv (q_move J) J<|AM.nil<|AT.runS (av := I v56.1) (Ti := [(b_0,.cells [.list 1 (v55.2.L.map I),I v55.2.at_])]) (Pi := [(b_0,.cells [.list 1 (v56.2.L.map I),I v56.2.at_])]) (fun _=>J) (fun _=>J) (fun _=>J) J J J ?_ ?_
                  · exact t_call0 J (Stream_Next_c e11) (CoL.refl _) (.cons .p0 .nil) J J<|ARun.nil ⟨_,J,J⟩
                  exact AT.am 4 J J<|AM.qv (t_index J J J e12 J J) J<|AM.qv (q_load_rptr J J J) J<|AM.qv (n_build J J J J J) J<|AM.buildSliceL (xs := ([(⟨v55.1,v57⟩ : Role)]).map Role.av) J J J J J J<|AM.nil<|AT.nilN (fun _=>J) fun β=>bndE h fun l58 e13 h=>t_append (g := Role.av) J J J J J J J J (.list _) e13 (fun _=>.p3) J fun b59=>rF J J J<|n_store_ptr J J J J .p1 J J<|rN<|ATodo.stop<|ImpX.lq [0,5,0,0,0,0,0] ⟨b59,b5,b6,v56.2.L,v56.2.at_,l58,v2.1.Members,v2.1.Shares,h,J⟩ J J
                · refine have h := iteF hc h; tSR<|ARun.qv (q_eql J J) J<|rA J J<|rN<|ATodo.cut (fun σ'=>∃ (b62 : Bk) (b64 : Bk) (l60 : List Int) (n61 : Int) (l63 : List Member) (l65 : List Share),Stream_Org_j5 v2 l60 n61 l63 l65 = some r ∧ σ' = ⟨112,[(2,.ptr b1 0),(3,.ptr b7 0)],[(b_0,.cells [.list 1 (l60.map I),I n61]),(b1,.cells [.nil,.nil,.nil,.nil]),(b7,.cells [.sl 2 b3 0 v2.1.Tenants.length,.sl 2 b4 0 v2.1.Roles.length,.sl 3 b62 0 l63.length,.sl 17 b64 0 l65.length]),(b3,.arr 2 (v2.1.Tenants.map Tenant.av)),(b4,.arr 2 (v2.1.Roles.map Role.av)),(b62,.arr 3 (l63.map Member.av)),(b64,.arr 17 (l65.map Share.av))]⟩) ?_ ?_
                  · refine ATodo.cond_d J (fun hc=>?_) (fun hc=>?_)
                    · refine have h := iteT hc h; bndE h fun v66 e14 h=>bndE h fun v67 e15 h=>bndE h fun v68 e16 h=>ATodo.regionT (id := 13) (A := [0,1,0,0,12,0,0,124,0,0,1020,2044,4092,8191,16383,32767]) (H0 := [(b_0,.cells [.list 1 (v19.2.L.map I),I v19.2.at_])]) (HH := fun β=>[(b_0,.cells [.list 1 (v68.2.L.map I),I v68.2.at_]),(b7,.cells [.sl 2 b3 0 v2.1.Tenants.length,.sl 2 b4 0 v2.1.Roles.length,.sl 3 b5 0 v2.1.Members.length,.sl 17 b6 0 v2.1.Shares.length]),(b3,.arr 2 (v2.1.Tenants.map Tenant.av)),(b4,.arr 2 (v2.1.Roles.map Role.av)),(b5,.arr 3 (v2.1.Members.map Member.av)),(b6,.arr 17 (v2.1.Shares.map Share.av)),(b1,.cells [.nil,.nil,.nil,.nil])]) 13 mixed J (by kernel_rfl) (by kernel_rfl) [⟨none,some 4,[],fun _=>(b_0,.cells [.list 1 (v19.2.L.map I),I v19.2.at_]),none⟩,⟨some 4,some 7,[],fun _=>(b_0,.cells [.list 1 (v66.2.L.map I),I v66.2.at_]),none⟩,⟨some 7,some 10,[],fun _=>(b_0,.cells [.list 1 (v67.2.L.map I),I v67.2.at_]),none⟩,⟨some 10,none,[],fun _=>(b_0,.cells [.list 1 (v68.2.L.map I),I v68.2.at_]),none⟩] [] J (by kernel_rfl) J (.cons .p0 .nil) (fun _=>J)<|AT.am 4 J J<|AM.qv (n_field_ptr J J) J<|AM.qv (q_load_ptr J J .p0 J) J<|AM.qv (q_move J) J<|AM.buildSliceL (xs := ([([] : Str),([97,110,110] : Str),([122,101,100] : Str)]).map AV.str) J J J J J J<|AM.nil<|AT.runS (av := .str v66.1) (Ti := [(b_0,.cells [.list 1 (v19.2.L.map I),I v19.2.at_])]) (Pi := [(b_0,.cells [.list 1 (v66.2.L.map I),I v66.2.at_])]) (fun _=>J) (fun _=>J) (fun _=>J) J J J ?_ ?_
                      · exact t_call0 J (Stream_Some_c e14) (CoL.refl _) (.cons .p0 .nil) J J<|ARun.nil ⟨_,J,J⟩
                      refine AT.am 2 J J<|AM.qv (q_move J) J<|AM.buildSliceL (xs := ([([116,97] : Str),([110,111,110,101] : Str)]).map AV.str) J J J J J J<|AM.nil<|AT.runS (av := .str v67.1) (Ti := [(b_0,.cells [.list 1 (v66.2.L.map I),I v66.2.at_])]) (Pi := [(b_0,.cells [.list 1 (v67.2.L.map I),I v67.2.at_])]) (fun _=>J) (fun _=>J) (fun _=>J) J J J ?_ ?_
                      · exact t_call0 J (Stream_Some_c e15) (CoL.refl _) (.cons .p0 .nil) J J<|ARun.nil ⟨_,J,J⟩
                      refine AT.am 2 J J<|AM.qv (q_move J) J<|AM.buildSliceL (xs := ([([114,101,97,100] : Str),([110,111,110,101] : Str)]).map AV.str) J J J J J J<|AM.nil<|AT.runS (av := .str v68.1) (Ti := [(b_0,.cells [.list 1 (v67.2.L.map I),I v67.2.at_])]) (Pi := [(b_0,.cells [.list 1 (v68.2.L.map I),I v68.2.at_])]) (fun _=>J) (fun _=>J) (fun _=>J) J J J ?_ ?_
                      · exact t_call0 J (Stream_Some_c e16) (CoL.refl _) (.cons .p0 .nil) J J<|ARun.nil ⟨_,J,J⟩
                      exact AT.am 2 J J<|AM.qv (n_build J J J J J) J<|AM.buildSliceL (xs := ([(⟨v66.1,v67.1,v68.1⟩ : Member)]).map Member.av) J J J J J J<|AM.nil<|AT.nilN (fun _=>J) fun β=>bndE h fun l69 e17 h=>t_append (g := Member.av) J J J J J J J J (.list _) e17 (fun _=>.p4) J fun b70=>rF J J J<|n_store_ptr J J J J .p1 J J<|rN<|ATodo.stop<|ImpX.lq [0,5,0,0,0,0,0] ⟨b70,b6,v68.2.L,v68.2.at_,l69,v2.1.Shares,h,J⟩ J J
                    · refine have h := iteF hc h; tSR<|ARun.qv (q_eql J J) J<|rA J J<|rN<|ATodo.cut (fun σ'=>∃ (b73 : Bk) (l71 : List Int) (n72 : Int) (l74 : List Share),Stream_Org_j6 v2 l71 n72 l74 = some r ∧ σ' = ⟨112,[(2,.ptr b1 0),(3,.ptr b7 0)],[(b_0,.cells [.list 1 (l71.map I),I n72]),(b1,.cells [.nil,.nil,.nil,.nil]),(b7,.cells [.sl 2 b3 0 v2.1.Tenants.length,.sl 2 b4 0 v2.1.Roles.length,.sl 3 b5 0 v2.1.Members.length,.sl 17 b73 0 l74.length]),(b3,.arr 2 (v2.1.Tenants.map Tenant.av)),(b4,.arr 2 (v2.1.Roles.map Role.av)),(b5,.arr 3 (v2.1.Members.map Member.av)),(b73,.arr 17 (l74.map Share.av))]⟩) ?_ ?_
                      · refine ATodo.cond_d J (fun hc=>?_) (fun hc=>?_)
                        · refine have h := iteT hc h; bndE h fun v75 e18 h=>bndE h fun v76 e19 h=>bndE h fun v77 e20 h=>bndE h fun v78 e21 h=>bndE h fun v79 e22 h=>bndE h fun v80 e23 h=>ATodo.regionT (id := 15) (A := [0,1,0,0,12,0,0,124,0,0,1020,0,4092,0,16380,0,65532,131068,262140,524287,1048575,2097151]) (H0 := [(b_0,.cells [.list 1 (v19.2.L.map I),I v19.2.at_])]) (HH := fun β=>[(b_0,.cells [.list 1 (v80.2.L.map I),I v80.2.at_]),(b7,.cells [.sl 2 b3 0 v2.1.Tenants.length,.sl 2 b4 0 v2.1.Roles.length,.sl 3 b5 0 v2.1.Members.length,.sl 17 b6 0 v2.1.Shares.length]),(b3,.arr 2 (v2.1.Tenants.map Tenant.av)),(b4,.arr 2 (v2.1.Roles.map Role.av)),(b5,.arr 3 (v2.1.Members.map Member.av)),(b6,.arr 17 (v2.1.Shares.map Share.av)),(b1,.cells [.nil,.nil,.nil,.nil])]) 19 mixed J (by kernel_rfl) (by kernel_rfl) [⟨none,some 4,[],fun _=>(b_0,.cells [.list 1 (v19.2.L.map I),I v19.2.at_]),none⟩,⟨some 4,some 7,[],fun _=>(b_0,.cells [.list 1 (v75.2.L.map I),I v75.2.at_]),none⟩,⟨some 7,some 10,[],fun _=>(b_0,.cells [.list 1 (v76.2.L.map I),I v76.2.at_]),none⟩,⟨some 10,some 12,[],fun _=>(b_0,.cells [.list 1 (v77.2.L.map I),I v77.2.at_]),none⟩,⟨some 12,some 14,[],fun _=>(b_0,.cells [.list 1 (v78.2.L.map I),I v78.2.at_]),none⟩,⟨some 14,some 16,[],fun _=>(b_0,.cells [.list 1 (v79.2.L.map I),I v79.2.at_]),none⟩,⟨some 16,none,[],fun _=>(b_0,.cells [.list 1 (v80.2.L.map I),I v80.2.at_]),none⟩] [] J (by kernel_rfl) J (.cons .p0 .nil) (fun _=>J)<|AT.am 4 J J<|AM.qv (n_field_ptr J J) J<|AM.qv (q_load_ptr J J .p0 J) J<|AM.qv (q_move J) J<|AM.buildSliceL (xs := ([([] : Str),([115,97] : Str),([115,122] : Str)]).map AV.str) J J J J J J<|AM.nil<|AT.runS (av := .str v75.1) (Ti := [(b_0,.cells [.list 1 (v19.2.L.map I),I v19.2.at_])]) (Pi := [(b_0,.cells [.list 1 (v75.2.L.map I),I v75.2.at_])]) (fun _=>J) (fun _=>J) (fun _=>J) J J J ?_ ?_
                          · exact t_call0 J (Stream_Some_c e18) (CoL.refl _) (.cons .p0 .nil) J J<|ARun.nil ⟨_,J,J⟩
                          refine AT.am 2 J J<|AM.qv (q_move J) J<|AM.buildSliceL (xs := ([([116,97] : Str),([110,111,110,101] : Str),([116,100] : Str)]).map AV.str) J J J J J J<|AM.nil<|AT.runS (av := .str v76.1) (Ti := [(b_0,.cells [.list 1 (v75.2.L.map I),I v75.2.at_])]) (Pi := [(b_0,.cells [.list 1 (v76.2.L.map I),I v76.2.at_])]) (fun _=>J) (fun _=>J) (fun _=>J) J J J ?_ ?_
                          · exact t_call0 J (Stream_Some_c e19) (CoL.refl _) (.cons .p0 .nil) J J<|ARun.nil ⟨_,J,J⟩
                          refine AT.am 2 J J<|AM.qv (q_move J) J<|AM.buildSliceL (xs := ([([116,100] : Str),([116,98] : Str),([110,111,110,101] : Str)]).map AV.str) J J J J J J<|AM.nil<|AT.runS (av := .str v77.1) (Ti := [(b_0,.cells [.list 1 (v76.2.L.map I),I v76.2.at_])]) (Pi := [(b_0,.cells [.list 1 (v77.2.L.map I),I v77.2.at_])]) (fun _=>J) (fun _=>J) (fun _=>J) J J J ?_ ?_
                          · exact t_call0 J (Stream_Some_c e20) (CoL.refl _) (.cons .p0 .nil) J J<|ARun.nil ⟨_,J,J⟩
                          refine AT.am 1 J J<|AM.qv (q_move J) J<|AM.nil<|AT.runS (av := .agg [I v78.1.Kind,.str v78.1.Field,.str v78.1.Op,I v78.1.Value.Kind,.bool v78.1.Value.Flag,I v78.1.Value.Number,.str v78.1.Value.Words,I v78.1.Version.Major,I v78.1.Version.Minor,I v78.1.Version.Patch,.list 11 (v78.1.Kids.map Query.av)]) (Ti := [(b_0,.cells [.list 1 (v77.2.L.map I),I v77.2.at_])]) (Pi := [(b_0,.cells [.list 1 (v78.2.L.map I),I v78.2.at_])]) (fun _=>J) (fun _=>J) (fun _=>J) J J J ?_ ?_
                          · exact t_call0 J (Stream_Query_c e21) (CoL.refl _) (.cons .p0 .nil) J J<|ARun.nil ⟨_,J,J⟩
                          refine AT.am 1 J J<|AM.qv (q_move J) J<|AM.nil<|AT.runS (av := .list 1 (v79.1.map AV.str)) (Ti := [(b_0,.cells [.list 1 (v78.2.L.map I),I v78.2.at_])]) (Pi := [(b_0,.cells [.list 1 (v79.2.L.map I),I v79.2.at_])]) (fun _=>J) (fun _=>J) (fun _=>J) J J J ?_ ?_
                          · exact t_call0 J (Stream_acts_c e22) (CoL.refl _) (.cons .p0 .nil) J J<|ARun.nil ⟨_,J,J⟩
                          refine AT.am 1 J J<|AM.qv (q_move J) J<|AM.nil<|AT.runS (av := .agg [I v80.1.From,I v80.1.To]) (Ti := [(b_0,.cells [.list 1 (v79.2.L.map I),I v79.2.at_])]) (Pi := [(b_0,.cells [.list 1 (v80.2.L.map I),I v80.2.at_])]) (fun _=>J) (fun _=>J) (fun _=>J) J J J ?_ ?_
                          · exact t_call0 J (Stream_Span_c e23) (CoL.refl _) (.cons .p0 .nil) J J<|ARun.nil ⟨_,J,J⟩
                          exact AT.am 2 J J<|AM.qv (n_build J J J J J) J<|AM.buildSliceL (xs := ([(⟨v75.1,v76.1,v77.1,v78.1,v79.1,v80.1⟩ : Share)]).map Share.av) J J J J J J<|AM.nil<|AT.nilN (fun _=>J) fun β=>bndE h fun l81 e24 h=>t_append (g := Share.av) J J J J J J J J (.list _) e24 (fun _=>.p5) J fun b82=>rF J J J<|n_store_ptr J J J J .p1 J J<|rN<|ATodo.stop<|ImpX.lq [0,5,0,0,0,0,0] ⟨b82,v80.2.L,v80.2.at_,l81,h,J⟩ J J
                        · refine have h := iteF hc h; tSR<|rF J J J<|rL J J .p1 J J<|ARun.qv (t_len_sl J) J<|ARun.qv (q_gtr J J) J<|rN<|ATodo.cut (fun σ'=>∃ (l83 : List Int) (n84 : Int) (l85 : List Share),Stream_Org_j7 v2 l83 n84 l85 = some r ∧ σ' = ⟨112,[(2,.ptr b1 0),(3,.ptr b7 0)],[(b_0,.cells [.list 1 (l83.map I),I n84]),(b1,.cells [.nil,.nil,.nil,.nil]),(b7,.cells [.sl 2 b3 0 v2.1.Tenants.length,.sl 2 b4 0 v2.1.Roles.length,.sl 3 b5 0 v2.1.Members.length,.sl 17 b6 0 l85.length]),(b3,.arr 2 (v2.1.Tenants.map Tenant.av)),(b4,.arr 2 (v2.1.Roles.map Role.av)),(b5,.arr 3 (v2.1.Members.map Member.av)),(b6,.arr 17 (l85.map Share.av))]⟩) ?_ ?_
                          · refine ATodo.cond_d J (fun hc=>?_) (fun hc=>?_)
                            · refine have h := iteT hc h; bndE h fun v86 e25 h=>bndE h fun v87 e26 h=>ATodo.regionT (id := 5) (A := [0,1,0,0,12,0,32,124,252,511,1023,2047]) (H0 := [(b_0,.cells [.list 1 (v19.2.L.map I),I v19.2.at_])]) (HH := fun β=>[(b_0,.cells [.list 1 (v86.2.L.map I),I v86.2.at_]),(b7,.cells [.sl 2 b3 0 v2.1.Tenants.length,.sl 2 b4 0 v2.1.Roles.length,.sl 3 b5 0 v2.1.Members.length,.sl 17 b6 0 v2.1.Shares.length]),(b3,.arr 2 (v2.1.Tenants.map Tenant.av)),(b4,.arr 2 (v2.1.Roles.map Role.av)),(b5,.arr 3 (v2.1.Members.map Member.av)),(b6,.arr 17 (v2.1.Shares.map Share.av)),(b1,.cells [.nil,.nil,.nil,.nil])]) 9 mixed J (by kernel_rfl) (by kernel_rfl) [⟨none,some 6,[],fun _=>(b_0,.cells [.list 1 (v19.2.L.map I),I v19.2.at_]),none⟩,⟨some 6,none,[],fun _=>(b_0,.cells [.list 1 (v86.2.L.map I),I v86.2.at_]),none⟩] [] J (by kernel_rfl) J (.cons .p0 .nil) (fun _=>J)<|AT.am 6 J J<|AM.qv (n_field_ptr J J) J<|AM.qv (q_load_ptr J J .p0 J) J<|AM.buildSliceL (xs := ([([65] : Str)]).map AV.str) J J J J J J<|AM.buildSliceL (xs := ([([98] : Str),([97] : Str)]).map AV.str) J J J J J J<|AM.buildSliceX (xs := [.nil,.list 1 ([([65] : Str)].map AV.str),.list 1 ([([98] : Str),([97] : Str)].map AV.str)]) (av := .list 1 (([[],[([65] : Str)],[([98] : Str),([97] : Str)]] : List (List Str)).map (encL 1 AV.str))) J J J J J J (CoX.listL (.cons .n (.cons .r (.cons .r .nil))) J J)<|AM.qv (q_move J) J<|AM.nil<|AT.runS (av := I v86.1) (Ti := [(b_0,.cells [.list 1 (v19.2.L.map I),I v19.2.at_])]) (Pi := [(b_0,.cells [.list 1 (v86.2.L.map I),I v86.2.at_])]) (fun _=>J) (fun _=>J) (fun _=>J) J J J ?_ ?_
                              · exact t_call0 J (Stream_Next_c e25) (CoL.refl _) (.cons .p0 .nil) J J<|ARun.nil ⟨_,J,J⟩
                              exact AT.am 2 J J<|AM.qv (t_index J J J e26 J J) J<|AM.qv (q_load_rptr J J J) J<|AM.nil<|AT.nilN (fun _=>J) fun β=>bndE h fun v88 e27 h=>ARun.qv (t_index_sl J J J e27) J<|ARun.qv (t_field_aptr J J) J<|t_store_aptr1 (g := Share.av) (el' := (⟨v88.Key,v88.From,v88.To,v88.Query,v87,v88.Time⟩ : Share)) J J J J e27 J .p5 J<|ARun.ghost<|ImpX.eqs (s := 11) (av' := .sl 17 b6 0 (v2.1.Shares.set (0 : Int).toNat (⟨v88.Key,v88.From,v88.To,v88.Query,v87,v88.Time⟩ : Share)).length) J (by rw [List.length_set])<|ImpX.here<|ARun.ghost<|ImpX.eqs (s := 15) (av' := .sl 17 b6 0 (v2.1.Shares.set (0 : Int).toNat (⟨v88.Key,v88.From,v88.To,v88.Query,v87,v88.Time⟩ : Share)).length) J (by rw [List.length_set])<|ImpX.here<|ARun.ghost<|ImpX.eqBox (j := 3) (av' := .sl 17 b6 0 (v2.1.Shares.set (0 : Int).toNat (⟨v88.Key,v88.From,v88.To,v88.Query,v87,v88.Time⟩ : Share)).length) .p1 J (by rw [List.length_set]) J<|ImpX.here<|rN<|ATodo.stop<|ImpX.lq [0,5,0,0,0,0,0] ⟨v86.2.L,v86.2.at_,v2.1.Shares.set (0 : Int).toNat (⟨v88.Key,v88.From,v88.To,v88.Query,v87,v88.Time⟩ : Share),h,J⟩ J J
                            · exact have h := iteF hc h; tK<|ATodo.stop<|ImpX.lq [0,5,0,0,0,0,0] ⟨v19.2.L,v19.2.at_,v2.1.Shares,h,J⟩ J J
                          · rintro σ' ⟨l83, n84, l85, h, rfl⟩
                            unfold Stream_Org_j7 at h
                            exact ATodo.stop<|ImpX.lq [0,0,0,0,0,0,0] ⟨b6,l83,n84,l85,h,J⟩ J J
                      · rintro σ' ⟨b73, l71, n72, l74, h, rfl⟩
                        unfold Stream_Org_j6 at h
                        exact ATodo.stop<|ImpX.lq [0,0,0,0,0,0,0] ⟨b5,b73,l71,n72,v2.1.Members,l74,h,J⟩ J J
                  · rintro σ' ⟨b62, b64, l60, n61, l63, l65, h, rfl⟩
                    unfold Stream_Org_j5 at h
                    exact ATodo.stop<|ImpX.lq [0,0,0,0,0,0,0] ⟨b4,b62,b64,l60,n61,v2.1.Roles,l63,l65,h,J⟩ J J
              · rintro σ' ⟨b49, b51, b53, l47, n48, l50, l52, l54, h, rfl⟩
                unfold Stream_Org_j4 at h
                exact ATodo.stop<|ImpX.lq [0,0,0,0,0,0,0] ⟨b3,b49,b51,b53,l47,n48,v2.1.Tenants,l50,l52,l54,h,J⟩ J J
          · rintro σ' ⟨b35, b37, b39, b41, l33, n34, l36, l38, l40, l42, h, rfl⟩
            unfold Stream_Org_j3 at h
            exact ATodo.stop<|ImpX.lq [0,0,0,0,0,0,0] ⟨b35,b37,b39,b41,l33,n34,l36,l38,l40,l42,h,J⟩ J J
      · rintro σ' ⟨b22, b24, b26, b28, l20, n21, l23, l25, l27, l29, h, rfl⟩
        unfold Stream_Org_j2 at h
        exact ATodo.blk<|ATodo.stop<|ImpX.lq [0,0,0,0,0,0,0] ⟨b22,b24,b26,b28,l20,n21,l23,l25,l27,l29,h,J⟩ J J
    · exact have h := iteFb hc h; tK<|ATodo.stop<|ImpX.lq [0,5,0,0,0,0,0] ⟨b3,b4,b5,b6,v8.2.L,v8.2.at_,v2.1.Tenants,v2.1.Roles,v2.1.Members,v2.1.Shares,h,J⟩ J J
  · rintro σ' ⟨b11, b13, b15, b17, l9, n10, l12, l14, l16, l18, h, rfl⟩
    unfold Stream_Org_j1 at h
    refine tSR<|ARun.qv (q_load_ptr_all J J .p2 J) J<|n_store_ptr J J J J .p1 J J<|rN<|ATodo.ret<|?_
    obtain rfl := Option.some.inj h
    exact ImpX.freeze .p3<|ImpX.coBox (j := 0) .p1 J (Co.froT .p3) J J<|ImpX.freeze .p4<|ImpX.coBox (j := 1) .p1 J (Co.froT .p4) J J<|ImpX.freeze .p5<|ImpX.coBox (j := 2) .p1 J (Co.froT .p5) J J<|ImpX.freeze .p6<|ImpX.coBox (j := 3) .p1 J (Co.froT .p6) J J<|ImpX.here ⟨_,.cons (.all _ _ _ _ _ _ J .p1 TUnder.h TInfo.h J J) .nil,_,.cons .p0 .nil,⟨J,J⟩⟩

theorem L_OrgsChecked_1x_c [GI : GTab] {b_0p : Bk} {p0x0 : Fleetmake_Stream} {r : Str × Fleetmake_Stream} (h : L_OrgsChecked_1x p0x0 = some r) : ACall Tryz.prog 8 [.rptr [.ptr b_0p 0]] [(b_0p,.cells [.list 1 (p0x0.L.map I),I p0x0.at_])] (T0 ([(b_0p,.cells [.list 1 (r.2.L.map I),I r.2.at_])]) (.str r.1)) := by
  unfold L_OrgsChecked_1x at h
  refine ACall.lessH ?_
  refine ACall.bodyN Tryz.func8 J Tryz.ntmps8 Tryz.results8 J J ?_
  refine tSR<|rA J J<|rN<|tSR<|ARun.qv (q_load_rptr J J J) J<|n_buildSliceL (xs := ([([42] : Str),([97,46,42] : Str),([97,46,98,46,42] : Str),([97] : Str),([97,46,98] : Str),([97,46,98,46,99] : Str),([97,98] : Str),([65] : Str),([97,46] : Str),([42,46,97] : Str),([97,46,98,46,99,46,100,46,101] : Str),([97,46,98,46,99,46,100,46,101,46,102] : Str),([97,46,98,46,99,46,100,46,42] : Str)]).map AV.str) J J J J J J<|bndE h fun v1 e1 h=>t_call0 J (Stream_Some_c e1) (CoL.refl _) (.cons .p0 .nil) J J<|rA J J<|rN<|ATodo.ret<|?_
  obtain rfl := Option.some.inj h
  exact ImpX.here ⟨_,.cons (.tmp _ _ J) .nil,_,.cons .p0 .nil,⟨J,J⟩⟩

theorem slices_Grow_string_string_n0x_c [GI : GTab] {p1x0 : Int} {r : (List Str)} (h : slices_Grow_string_string_n0x p1x0 = some r) : ACall Tryz.prog 136 [.nil,I p1x0] [] (T1 (fun d_0=>[(d_0,.arr 1 (r.map AV.str))]) (fun d_0=>.sl 1 d_0 0 r.length)) := by
  unfold slices_Grow_string_string_n0x at h
  refine ACall.lessH ?_
  refine ACall.bodyN Tryz.func136 J Tryz.ntmps136 Tryz.results136 J J ?_
  refine tSR<|rA J J<|rN<|tS<|tSR<|rM J J<|ARun.qv (q_lss J J) J<|rN<|ATodo.cond_d J (fun hc=>?_) (fun hc=>?_)
  · refine have h := iteT hc h; tR<|?_
    cases h
  · refine have h := iteF hc h; tK<|tS<|tSR<|rM J J<|rM J J<|ARun.qv (q_cap_nil J) J<|rM J J<|ARun.qv (q_len_nil J) J<|ARun.qv (q_subw J J) J<|ARun.qv (q_subw J J) J<|rA J J<|rN<|tSR<|rM J J<|ARun.qv (q_gtr J J) J<|rN<|ATodo.cut (fun σ'=>∃ (b1 : Bk) (l2 : List Str),slices_Grow_string_string_n0x_j1 l2 = some r ∧ σ' = ⟨27,[(0,.sl 1 b1 0 l2.length)],[(b1,.arr 1 (l2.map AV.str))]⟩) ?_ ?_
    · refine ATodo.cond_d J (fun hc=>?_) (fun hc=>?_)
      · exact have h := iteT hc h; tR<|rM J J<|rM J J<|ARun.qv (q_cap_nil J) J<|bndE h fun l3 e1 h=>ARun.qv (t_slice_nil J .none (.some _ _ _ J) J J e1) J<|rM J J<|bndE h fun l4 e2 h=>t_appendZ (g := AV.str) (Z := []) J J J J J J J J J e2 fun b5=>rM J J<|ARun.qv (q_len_nil J) J<|bndE h fun l6 e3 h=>ARun.qv (t_slice_sl J J .none (.some _ _ _ J) J J e3) J<|rA J J<|ARun.ghost<|ImpX.takeT e3 .p0<|ImpX.here<|rN<|ATodo.stop<|ImpX.lq [0] ⟨b5,l6,h,J⟩ J J
      · exact have h := iteF hc h; tK<|ATodo.stop<|ImpX.arr (s := 0) 1 J fun b7=>ImpX.lq [0] ⟨b7,[],h,J⟩ J J
    · rintro σ' ⟨b1, l2, h, rfl⟩
      unfold slices_Grow_string_string_n0x_j1 at h
      refine tSR<|rM J J<|rA J J<|rN<|ATodo.ret<|?_
      obtain rfl := Option.some.inj h
      exact ImpX.here ⟨_,.cons (.tmp _ _ J) .nil,_,.cons .p0 .nil,⟨b1,J,J⟩⟩

theorem slices_Concat_string_string_c [GI : GTab] {p0x0 : List (List Str)} {r : (List Str)} (h : slices_Concat_string_string p0x0 = some r) : ACall Tryz.prog 59 [.list 1 (p0x0.map (encL 1 AV.str))] [] (T1 (fun d_0=>[(d_0,.arr 1 (r.map AV.str))]) (fun d_0=>.sl 1 d_0 0 r.length)) := by
  unfold slices_Concat_string_string at h
  refine ACall.lessH ?_
  refine ACall.bodyN Tryz.func59 J Tryz.ntmps59 Tryz.results59 J J ?_
  refine tSR<|rA J J<|rN<|tSR<|rA J J<|rN<|tS<|tSR<|rM J J<|ARun.qv (t_len J) J<|rM J J<|rN<|ATodo.block<|ATodo.loopI (fun x : Int × Int=>slices_Concat_string_string_b1 p0x0 x.1 x.2) (fun x σ'=>σ' = ⟨36,[(0,.list 1 (p0x0.map (encL 1 AV.str))),(3,I x.1),(9,.list 1 (p0x0.map (encL 1 AV.str))),(10,I (p0x0.length : Int)),(11,I x.2)],[]⟩) h ?_ ?_
  · exact ImpX.lq [] J J J
  · intro x z1 σ' J1 hmk h hJ1 hA1
    obtain ⟨n3, n4⟩ := x
    obtain rfl := hmk
    replace h : slices_Concat_string_string_b1 p0x0 n3 n4 = some z1 := h
    unfold slices_Concat_string_string_b1 at h
    refine tSR<|ARun.qv (q_lss J J) J<|rN<|tS<|ATodo.cond_d J (fun hc=>?_) (fun hc=>?_)
    · refine have h := iteT hc h; tK<|tS<|ATodo.block<|tSR<|bndE h fun v5 e1 h=>ARun.qv (t_index J J J e1 J J) J<|ARun.qv (q_load_rptr J J J) J<|rA J J<|rN<|tSR<|rM J J<|rM J J<|ARun.qv (t_len J) J<|ARun.qv (q_addw J J) J<|rA J J<|rN<|tSR<|rM J J<|ARun.qv (q_lss J J) J<|rN<|ATodo.cond_d J (fun hc=>?_) (fun hc=>?_)
      · refine have h := iteT hc h; tR<|?_
        cases h
      · refine have h := iteF hc h; tK<|ATodo.blk<|tR<|ARun.qv (q_addw J J) J<|rM J J<|rN<|ATodo.stop<|?_
        obtain rfl := Option.some.inj h
        exact hJ1 _ _ J<|ImpX.lq [] J J J
    · refine have h := iteF hc h; ATodo.exit J<|have h := outL h hA1; ?_
      unfold slices_Concat_string_string_k1 at h
      refine tSR<|rM J J<|bndE h fun v6 e2 h=>t_call1 J (slices_Grow_string_string_n0x_c e2) (CoL.refl _) .nil (fun _=>J) J fun b7=>rA J J<|rN<|tS<|tSR<|rM J J<|ARun.qv (t_len J) J<|rM J J<|rN<|ATodo.block<|ATodo.loopI (fun x : (List Str) × Int=>slices_Concat_string_string_b2 p0x0 x.1 x.2) (fun x σ'=>∃ (b11 : Bk),σ' = ⟨36,[(6,.sl 1 b11 0 x.1.length),(25,.list 1 (p0x0.map (encL 1 AV.str))),(26,I (p0x0.length : Int)),(27,I x.2)],[(b11,.arr 1 (x.1.map AV.str))]⟩) h ?_ ?_
      · exact ImpX.lq [0] ⟨b7,J⟩ J J
      · intro x z2 σ' J2 hmk h hJ2 hA2
        obtain ⟨l12, n13⟩ := x
        obtain ⟨b11, rfl⟩ := hmk
        replace h : slices_Concat_string_string_b2 p0x0 l12 n13 = some z2 := h
        unfold slices_Concat_string_string_b2 at h
        refine tSR<|ARun.qv (q_lss J J) J<|rN<|tS<|ATodo.cond_d J (fun hc=>?_) (fun hc=>?_)
        · refine have h := iteT hc h; tK<|tS<|ATodo.block<|tSR<|bndE h fun v14 e3 h=>ARun.qv (t_index J J J e3 J J) J<|ARun.qv (q_load_rptr J J J) J<|rA J J<|rN<|tR<|rM J J<|rM J J<|bndE h fun l15 e4 h=>t_append (g := AV.str) J J J J J J J J (.list _) e4 (fun _=>.p0) J fun b16=>rA J J<|rN<|ATodo.blk<|tR<|ARun.qv (q_addw J J) J<|rM J J<|rN<|ATodo.stop<|?_
          obtain rfl := Option.some.inj h
          exact hJ2 _ _ J<|ImpX.lq [0] ⟨b16,J⟩ J J
        · refine have h := iteF hc h; ATodo.exit J<|have h := outL h hA2; tSR<|rM J J<|rA J J<|rN<|ATodo.ret<|?_
          obtain rfl := Option.some.inj h
          exact ImpX.here ⟨_,.cons (.tmp _ _ J) .nil,_,.cons .p0 .nil,⟨b11,J,J⟩⟩

theorem internal_stringslite_HasSuffix_c [GI : GTab] {p0x0 : Str} {p1x0 : Str} {r : Bool} (h : internal_stringslite_HasSuffix p0x0 p1x0 = some r) : Pu Tryz.prog 232 [.str p0x0,.str p1x0] (.bool r) := by
  unfold internal_stringslite_HasSuffix at h
  refine ACall.bodyN Tryz.func232 J Tryz.ntmps232 Tryz.results232 J J ?_
  refine tSR<|rA J J<|rN<|tS<|ATodo.cut (fun σ'=>∃ (c1 : Bool),internal_stringslite_HasSuffix_j1 c1 = some r ∧ σ' = ⟨21,[(4,.bool c1)],[]⟩) ?_ ?_
  · refine tR<|rM J J<|ARun.qv (q_len_str J) J<|rM J J<|ARun.qv (q_len_str J) J<|ARun.qv (q_geq J J) J<|rM J J<|ARun.guard_dt J J J (fun hc=>?_) (fun hc=>?_)
    · exact have h := iteT hc h; rM J J<|rY J J J<|rM J J<|rY J J J<|ARun.qv (q_len_str J) J<|rY J J J<|rM J J<|rY J J J<|ARun.qv (q_len_str J) J<|rY J J J<|ARun.qv (q_subw J J) J<|rY J J J<|bndE h fun l2 e1 h=>ARun.qv (t_slice_str J (.some _ _ _ J) .none J J e1) J<|rY J J J<|rM J J<|rY J J J<|ARun.qv (q_seq J J) J<|rT J J J<|rA J J<|rN<|ATodo.stop<|ImpX.lq [] ⟨decide (l2 = p1x0),h,J⟩ J J
    · exact have h := iteF hc h; rG J J J J<|rG J J J J<|rG J J J J<|rG J J J J<|rG J J J J<|rG J J J J<|rG J J J J<|rG J J J J<|rE J J J<|rA J J<|rN<|ATodo.stop<|ImpX.lq [] ⟨false,h,J⟩ J J
  · rintro σ' ⟨c1, h, rfl⟩
    unfold internal_stringslite_HasSuffix_j1 at h
    refine ATodo.ret<|?_
    obtain rfl := Option.some.inj h
    exact ImpX.here ⟨_,.cons (.tmp _ _ J) .nil,J⟩

theorem internal_stringslite_CutSuffix_c [GI : GTab] {p0x0 : Str} {p1x0 : Str} {r : Str × Bool} (h : internal_stringslite_CutSuffix p0x0 p1x0 = some r) : Pu Tryz.prog 192 [.str p0x0,.str p1x0] (.tup [.str r.1,.bool r.2]) := by
  unfold internal_stringslite_CutSuffix at h
  refine ACall.bodyN Tryz.func192 J Tryz.ntmps192 Tryz.results192 J J ?_
  refine tSR<|rA J J<|rA J J<|rN<|tS<|tSR<|rM J J<|rM J J<|bndE h fun v1 e1 h=>r_callp J (internal_stringslite_HasSuffix_c e1) (CoL.refl _) J<|ARun.qv (q_not J) J<|rN<|ATodo.cond J (fun hc=>?_) (fun hc=>?_)
  · refine have h := iteT hc h; tSR<|rM J J<|rA J J<|rA J J<|rN<|ATodo.ret<|?_
    obtain rfl := Option.some.inj h
    exact ImpX.here ⟨_,.cons (.tmp _ _ J) (.cons (.tmp _ _ J) .nil),J⟩
  · refine have h := iteFb hc h; tK<|tSR<|rM J J<|rM J J<|ARun.qv (q_len_str J) J<|rM J J<|ARun.qv (q_len_str J) J<|ARun.qv (q_subw J J) J<|bndE h fun l2 e2 h=>ARun.qv (t_slice_str J .none (.some _ _ _ J) J J e2) J<|rA J J<|rA J J<|rN<|ATodo.ret<|?_
    obtain rfl := Option.some.inj h
    exact ImpX.here ⟨_,.cons (.tmp _ _ J) (.cons (.tmp _ _ J) .nil),J⟩

theorem strings_CutSuffix_c [GI : GTab] {p0x0 : Str} {p1x0 : Str} {r : Str × Bool} (h : strings_CutSuffix p0x0 p1x0 = some r) : Pu Tryz.prog 137 [.str p0x0,.str p1x0] (.tup [.str r.1,.bool r.2]) := by
  unfold strings_CutSuffix at h
  refine ACall.bodyN Tryz.func137 J Tryz.ntmps137 Tryz.results137 J J ?_
  refine tSR<|rA J J<|rA J J<|rN<|tSR<|rM J J<|rM J J<|bndE h fun v1 e1 h=>r_callp J (internal_stringslite_CutSuffix_c e1) (CoL.refl _) J<|rX J J J<|rX J J J<|rA J J<|rA J J<|rN<|ATodo.ret<|?_
  obtain rfl := Option.some.inj h
  exact ImpX.here ⟨_,.cons (.tmp _ _ J) (.cons (.tmp _ _ J) .nil),J⟩

theorem base_Key_c [GI : GTab] {p0x0 : Str} {r : Bool} (h : base_Key p0x0 = some r) : Pu Tryz.prog 161 [.str p0x0] (.bool r) := by
  unfold base_Key at h
  refine ACall.bodyN Tryz.func161 J Tryz.ntmps161 Tryz.results161 J J ?_
  refine tSR<|rA J J<|rN<|tS<|tS<|ATodo.cut (fun σ'=>∃ (c1 : Bool),base_Key_j1 p0x0 c1 = some r ∧ σ' = ⟨54,[(0,.str p0x0),(21,.bool c1)],[]⟩) ?_ ?_
  · refine tR<|rM J J<|ARun.qv (q_seq J J) J<|rM J J<|ARun.guard_df J J J (fun hc=>?_) (fun hc=>?_)
    · refine have h := iteF hc h; rM J J<|rY J J J<|ARun.qv (q_len_str J) J<|rY J J J<|ARun.qv (q_gtr J J) J<|rE J J J<|rM J J<|ARun.guard_df J J J (fun hc=>?_) (fun hc=>?_)
      · refine have h := iteF hc h; rM J J<|rY J J J<|bndE h fun c2 e1 h=>ARun.qv (t_index_str J J e1) J<|rY J J J<|ARun.qv (q_lss J J) J<|rE J J J<|rM J J<|ARun.guard_df J J J (fun hc=>?_) (fun hc=>?_)
        · exact have h := iteF hc h; rM J J<|rY J J J<|bndE h fun c3 e2 h=>ARun.qv (t_index_str J J e2) J<|rY J J J<|ARun.qv (q_gtr J J) J<|rE J J J<|rN<|ATodo.stop<|ImpX.lq [] ⟨decide ((122 : Int) < (c3.toNat : Int)),h,J⟩ J J
        · exact have h := iteT hc h; rG J J J J<|rG J J J J<|rT J J J<|rN<|ATodo.stop<|ImpX.lq [] ⟨true,h,J⟩ J J
      · exact have h := iteT hc h; rG J J J J<|rG J J J J<|rT J J J<|rM J J<|rG J J J J<|rG J J J J<|rG J J J J<|rT J J J<|rN<|ATodo.stop<|ImpX.lq [] ⟨true,h,J⟩ J J
    · exact have h := iteT hc h; rG J J J J<|rG J J J J<|rT J J J<|rM J J<|rG J J J J<|rG J J J J<|rG J J J J<|rT J J J<|rM J J<|rG J J J J<|rG J J J J<|rG J J J J<|rT J J J<|rN<|ATodo.stop<|ImpX.lq [] ⟨true,h,J⟩ J J
  · rintro σ' ⟨c1, h, rfl⟩
    unfold base_Key_j1 at h
    refine ATodo.cond J (fun hc=>?_) (fun hc=>?_)
    · refine have h := iteT hc h; tSR<|rA J J<|rN<|ATodo.ret<|?_
      obtain rfl := Option.some.inj h
      exact ImpX.here ⟨_,.cons (.tmp _ _ J) .nil,J⟩
    · refine have h := iteFb hc h; tK<|tS<|tSR<|rM J J<|ARun.qv (q_len_str J) J<|rM J J<|rN<|ATodo.block<|ATodo.loopI (fun x : Int=>base_Key_b1 p0x0 x) (fun x σ'=>σ' = ⟨54,[(0,.str p0x0),(23,I (p0x0.length : Int)),(24,I x)],[]⟩) h ?_ ?_
      · exact ImpX.lq [] J J J
      · intro n5 z1 σ' J1 hmk h hJ1 hA1
        obtain rfl := hmk
        replace h : base_Key_b1 p0x0 n5 = some z1 := h
        unfold base_Key_b1 at h
        refine tSR<|ARun.qv (q_lss J J) J<|rN<|tS<|ATodo.cond_d J (fun hc=>?_) (fun hc=>?_)
        · refine have h := iteT hc h; tK<|tS<|ATodo.block<|tSR<|rM J J<|rA J J<|rN<|tSR<|rM J J<|rM J J<|bndE h fun c6 e3 h=>ARun.qv (t_index_str J J e3) J<|rA J J<|rN<|tS<|ATodo.cut (fun σ'=>∃ (c7 : Bool),base_Key_j2 n5 c7 = some z1 ∧ σ' = ⟨54,[(0,.str p0x0),(23,I (p0x0.length : Int)),(24,I n5),(52,.bool c7)],[]⟩) ?_ ?_
          · refine tR<|rM J J<|ARun.qv (q_geq J J) J<|rM J J<|ARun.guard_dt J J J (fun hc=>?_) (fun hc=>?_)
            · rw [if_pos hc] at h
              refine rM J J<|rY J J J<|ARun.qv (q_leq J J) J<|rT J J J<|rM J J<|ARun.guard_df J J J (fun hc=>?_) (fun hc=>?_)
              · rw [if_neg hc] at h
                refine rM J J<|rY J J J<|ARun.qv (q_geq J J) J<|rY J J J<|rM J J<|ARun.guard_dt J J J (fun hc=>?_) (fun hc=>?_)
                · rw [if_pos hc] at h
                  refine rM J J<|rY J J J<|ARun.qv (q_leq J J) J<|rY J J J<|rT J J J<|rE J J J<|rM J J<|ARun.guard_df J J J (fun hc=>?_) (fun hc=>?_)
                  · rw [if_neg hc] at h
                    refine rM J J<|rY J J J<|ARun.qv (q_eql J J) J<|rE J J J<|rM J J<|ARun.guard_df J J J (fun hc=>?_) (fun hc=>?_)
                    · rw [if_neg hc] at h
                      exact rM J J<|rY J J J<|ARun.qv (q_eql J J) J<|rE J J J<|ARun.qv (q_not_d J) J<|rN<|ATodo.stop<|ImpX.lq [] ⟨decide (¬ ((c6.toNat : Int) = (95 : Int))),h,J⟩ J J
                    · rw [if_pos hc] at h
                      exact rG J J J J<|rT J J J<|ARun.qv (q_not J) J<|rN<|ATodo.stop<|ImpX.lq [] ⟨!true,h,J⟩ J J
                  · rw [if_pos hc] at h
                    exact rG J J J J<|rT J J J<|rM J J<|rG J J J J<|rG J J J J<|rT J J J<|ARun.qv (q_not J) J<|rN<|ATodo.stop<|ImpX.lq [] ⟨!true,h,J⟩ J J
                · rw [if_neg hc] at h
                  refine rG J J J J<|rY J J J<|rE J J J<|rE J J J<|rM J J<|rY J J J<|rM J J<|rY J J J<|ARun.qv (q_eql J J) J<|rE J J J<|rM J J<|ARun.guard_df J J J (fun hc=>?_) (fun hc=>?_)
                  · rw [if_neg hc] at h
                    exact rM J J<|rY J J J<|ARun.qv (q_eql J J) J<|rE J J J<|ARun.qv (q_not_d J) J<|rN<|ATodo.stop<|ImpX.lq [] ⟨decide (¬ ((c6.toNat : Int) = (95 : Int))),h,J⟩ J J
                  · rw [if_pos hc] at h
                    exact rG J J J J<|rT J J J<|ARun.qv (q_not J) J<|rN<|ATodo.stop<|ImpX.lq [] ⟨!true,h,J⟩ J J
              · rw [if_pos hc] at h
                exact rG J J J J<|rG J J J J<|ARun.guard_und J J J<|ARun.guard_und J J J<|rG J J J J<|rT J J J<|rM J J<|rG J J J J<|rG J J J J<|rT J J J<|rM J J<|rG J J J J<|rG J J J J<|rT J J J<|ARun.qv (q_not J) J<|rN<|ATodo.stop<|ImpX.lq [] ⟨!true,h,J⟩ J J
            · rw [if_neg hc] at h
              refine rG J J J J<|rE J J J<|rM J J<|rY J J J<|rM J J<|rY J J J<|ARun.qv (q_geq J J) J<|rY J J J<|rM J J<|ARun.guard_dt J J J (fun hc=>?_) (fun hc=>?_)
              · rw [if_pos hc] at h
                refine rM J J<|rY J J J<|ARun.qv (q_leq J J) J<|rY J J J<|rT J J J<|rE J J J<|rM J J<|ARun.guard_df J J J (fun hc=>?_) (fun hc=>?_)
                · rw [if_neg hc] at h
                  refine rM J J<|rY J J J<|ARun.qv (q_eql J J) J<|rE J J J<|rM J J<|ARun.guard_df J J J (fun hc=>?_) (fun hc=>?_)
                  · rw [if_neg hc] at h
                    exact rM J J<|rY J J J<|ARun.qv (q_eql J J) J<|rE J J J<|ARun.qv (q_not_d J) J<|rN<|ATodo.stop<|ImpX.lq [] ⟨decide (¬ ((c6.toNat : Int) = (95 : Int))),h,J⟩ J J
                  · rw [if_pos hc] at h
                    exact rG J J J J<|rT J J J<|ARun.qv (q_not J) J<|rN<|ATodo.stop<|ImpX.lq [] ⟨!true,h,J⟩ J J
                · rw [if_pos hc] at h
                  exact rG J J J J<|rT J J J<|rM J J<|rG J J J J<|rG J J J J<|rT J J J<|ARun.qv (q_not J) J<|rN<|ATodo.stop<|ImpX.lq [] ⟨!true,h,J⟩ J J
              · rw [if_neg hc] at h
                refine rG J J J J<|rY J J J<|rE J J J<|rE J J J<|rM J J<|rY J J J<|rM J J<|rY J J J<|ARun.qv (q_eql J J) J<|rE J J J<|rM J J<|ARun.guard_df J J J (fun hc=>?_) (fun hc=>?_)
                · rw [if_neg hc] at h
                  exact rM J J<|rY J J J<|ARun.qv (q_eql J J) J<|rE J J J<|ARun.qv (q_not_d J) J<|rN<|ATodo.stop<|ImpX.lq [] ⟨decide (¬ ((c6.toNat : Int) = (95 : Int))),h,J⟩ J J
                · rw [if_pos hc] at h
                  exact rG J J J J<|rT J J J<|ARun.qv (q_not J) J<|rN<|ATodo.stop<|ImpX.lq [] ⟨!true,h,J⟩ J J
          · rintro σ' ⟨c7, h, rfl⟩
            unfold base_Key_j2 at h
            refine ATodo.cond J (fun hc=>?_) (fun hc=>?_)
            · refine have h := iteT hc h; tSR<|rA J J<|rN<|ATodo.ret<|have h := outL h hA1; ?_
              obtain rfl := Option.some.inj h
              exact ImpX.here ⟨_,.cons (.tmp _ _ J) .nil,J⟩
            · refine have h := iteFb hc h; tK<|ATodo.blk<|tR<|ARun.qv (q_addw J J) J<|rM J J<|rN<|ATodo.stop<|?_
              obtain rfl := Option.some.inj h
              exact hJ1 _ _ J<|ImpX.lq [] J J J
        · refine have h := iteF hc h; ATodo.exit J<|have h := outL h hA1; tSR<|rA J J<|rN<|ATodo.ret<|?_
          obtain rfl := Option.some.inj h
          exact ImpX.here ⟨_,.cons (.tmp _ _ J) .nil,J⟩

theorem base_Dotted_c {p0x0 : Str} {p1x0 : Int} {r : Bool} (h : base_Dotted p0x0 p1x0 = some r) : Pu Tryz.prog 139 [.str p0x0,I p1x0] (.bool r) := by
  unfold base_Dotted at h
  refine ACall.bodyN Tryz.func139 J Tryz.ntmps139 Tryz.results139 J J ?_
  refine tSR<|rA J J<|rN<|tS<|tSR<|rA J J<|rN<|ATodo.block<|ATodo.loopI (fun x : Str × Int=>base_Dotted_b1 p1x0 x.1 x.2) (fun x σ'=>σ' = ⟨26,[(0,.str x.1),(1,I p1x0),(5,I x.2)],[]⟩) h ?_ ?_
  · exact ImpX.lq [] J J J
  · intro x z1 σ' J1 hmk h hJ1 hA1
    obtain ⟨q3, n4⟩ := x
    obtain rfl := hmk
    replace h : base_Dotted_b1 p1x0 q3 n4 = some z1 := h
    unfold base_Dotted_b1 at h
    refine tS<|tSR<|rM J J<|rM J J<|ARun.qv (q_lss J J) J<|rN<|ATodo.cond_d J (fun hc=>?_) (fun hc=>?_)
    · refine have h := iteT hc h; tK<|tS<|ATodo.block<|tSR<|rM J J<|bndE h fun v5 e1 h=>r_callp J (strings_Cut_c e1) (CoL.refl _) J<|rM J J<|rX J J J<|rX J J J<|rX J J J<|rA J J<|rA J J<|rA J J<|rN<|tS<|tSR<|rM J J<|bndE h fun v6 e2 h=>r_callp J (base_Key_c e2) (CoL.refl _) J<|ARun.qv (q_not J) J<|rN<|ATodo.cond J (fun hc=>?_) (fun hc=>?_)
      · refine have h := iteT hc h; tSR<|rA J J<|rN<|ATodo.ret<|have h := outL h hA1; ?_
        obtain rfl := Option.some.inj h
        exact ImpX.here ⟨_,.cons (.tmp _ _ J) .nil,J⟩
      · refine have h := iteFb hc h; tK<|tS<|tSR<|rM J J<|ARun.qv (q_not J) J<|rN<|ATodo.cond J (fun hc=>?_) (fun hc=>?_)
        · refine have h := iteT hc h; tSR<|rA J J<|rN<|ATodo.ret<|have h := outL h hA1; ?_
          obtain rfl := Option.some.inj h
          exact ImpX.here ⟨_,.cons (.tmp _ _ J) .nil,J⟩
        · refine have h := iteFb hc h; tK<|tR<|rM J J<|rA J J<|rN<|ATodo.blk<|tR<|rM J J<|ARun.qv (q_addw J J) J<|rA J J<|rN<|ATodo.stop<|?_
          obtain rfl := Option.some.inj h
          exact hJ1 _ _ J<|ImpX.lq [] J J J
    · refine have h := iteF hc h; ATodo.exit J<|have h := outL h hA1; tSR<|rA J J<|rN<|ATodo.ret<|?_
      obtain rfl := Option.some.inj h
      exact ImpX.here ⟨_,.cons (.tmp _ _ J) .nil,J⟩

theorem tenant_isPlain_c {p0x0 : Str} {r : Bool} (h : tenant_isPlain p0x0 = some r) : Pu Tryz.prog 138 [.str p0x0] (.bool r) := by
  unfold tenant_isPlain at h
  refine ACall.bodyN Tryz.func138 J Tryz.ntmps138 Tryz.results138 J J ?_
  refine tSR<|rA J J<|rN<|tSR<|rM J J<|bndE h fun v1 e1 h=>r_callp J (base_Dotted_c e1) (CoL.refl _) J<|rA J J<|rN<|ATodo.ret<|?_
  obtain rfl := Option.some.inj h
  exact ImpX.here ⟨_,.cons (.tmp _ _ J) .nil,J⟩

theorem tenant_isAct_c {p0x0 : Str} {r : Bool} (h : tenant_isAct p0x0 = some r) : Pu Tryz.prog 61 [.str p0x0] (.bool r) := by
  unfold tenant_isAct at h
  refine ACall.bodyN Tryz.func61 J Tryz.ntmps61 Tryz.results61 J J ?_
  refine tSR<|rA J J<|rN<|tSR<|rM J J<|bndE h fun v1 e1 h=>r_callp J (strings_CutSuffix_c e1) (CoL.refl _) J<|rM J J<|rX J J J<|rX J J J<|rA J J<|rA J J<|rN<|tS<|ATodo.block<|tSR<|rM J J<|ARun.qv (q_not J) J<|rA J J<|rN<|ATodo.cond J (fun hc=>?_) (fun hc=>?_)
  · refine have h := iteT hc h; tSR<|rM J J<|bndE h fun v2 e2 h=>r_callp J (tenant_isPlain_c e2) (CoL.refl _) J<|rA J J<|rN<|ATodo.ret<|?_
    obtain rfl := Option.some.inj h
    exact ImpX.here ⟨_,.cons (.tmp _ _ J) .nil,J⟩
  · refine have h := iteFb hc h; tSR<|rM J J<|ARun.qv (q_seq J J) J<|rA J J<|rN<|ATodo.cond_d J (fun hc=>?_) (fun hc=>?_)
    · refine have h := iteT hc h; tSR<|rA J J<|rN<|ATodo.ret<|?_
      obtain rfl := Option.some.inj h
      exact ImpX.here ⟨_,.cons (.tmp _ _ J) .nil,J⟩
    · refine have h := iteF hc h; tK<|ATodo.blk<|tSR<|rM J J<|bndE h fun v3 e3 h=>r_callp J (strings_CutSuffix_c e3) (CoL.refl _) J<|rM J J<|rX J J J<|rX J J J<|rA J J<|rA J J<|rN<|tS<|ATodo.cut (fun σ'=>∃ (c4 : Bool),tenant_isAct_j1 c4 = some r ∧ σ' = ⟨29,[(2,.bool c4)],[]⟩) ?_ ?_
      · refine tR<|rM J J<|rM J J<|ARun.guard J J J (fun hc=>?_) (fun hc=>?_)
        · exact have h := iteT hc h; rM J J<|rY J J J<|bndE h fun v5 e4 h=>r_callp J (base_Dotted_c e4) (CoL.refl _) J<|rT J J J<|rA J J<|rN<|ATodo.stop<|ImpX.lq [] ⟨v5,h,J⟩ J J
        · exact have h := iteFb hc h; rG J J J J<|rE J J J<|rA J J<|rN<|ATodo.stop<|ImpX.lq [] ⟨false,h,J⟩ J J
      · rintro σ' ⟨c4, h, rfl⟩
        unfold tenant_isAct_j1 at h
        refine ATodo.ret<|?_
        obtain rfl := Option.some.inj h
        exact ImpX.here ⟨_,.cons (.tmp _ _ J) .nil,J⟩

theorem tenant_Covers_1x_c {p0x0 : Str} {r : Bool} (h : tenant_Covers_1x p0x0 = some r) : Pu Tryz.prog 60 [.str p0x0] (.bool r) := by
  unfold tenant_Covers_1x at h
  refine ACall.bodyN Tryz.func60 J Tryz.ntmps60 Tryz.results60 J J ?_
  refine tSR<|rA J J<|rN<|tSR<|rM J J<|bndE h fun v1 e1 h=>r_callp J (tenant_isAct_c e1) (CoL.refl _) J<|ARun.qv (q_not J) J<|rA J J<|rN<|ATodo.ret<|?_
  obtain rfl := Option.some.inj h
  exact ImpX.here ⟨_,.cons (.tmp _ _ J) .nil,J⟩

theorem slices_IndexFunc_string_string_c [GI : GTab] {p0x0 : List Str} {fnb : Str → Option Bool} {fnb_F : FuncId} [IsFn Tryz.prog fnb_F] {fnb_C : List AV} (fnb_h : ∀ {y0 : _} {u : Bool},fnb y0 = some u → Pu Tryz.prog fnb_F (.str y0 ::  fnb_C) (.bool u)) {r : Int} (h : slices_IndexFunc_string_string p0x0 fnb = some r) : Pu Tryz.prog 135 [.list 1 (p0x0.map AV.str),.func (.func fnb_F) fnb_C] (I r) := by
  unfold slices_IndexFunc_string_string at h
  refine ACall.bodyN Tryz.func135 J Tryz.ntmps135 Tryz.results135 J J ?_
  refine tSR<|rA J J<|rN<|tS<|tSR<|rM J J<|ARun.qv (t_len J) J<|rM J J<|rN<|ATodo.block<|ATodo.loopI (fun x : Int=>slices_IndexFunc_string_string_b1 p0x0 fnb x) (fun x σ'=>σ' = ⟨19,[(0,.list 1 (p0x0.map AV.str)),(1,.func (.func fnb_F) fnb_C),(7,I (p0x0.length : Int)),(8,I x)],[]⟩) h ?_ ?_
  · exact ImpX.lq [] J J J
  · intro n2 z1 σ' J1 hmk h hJ1 hA1
    obtain rfl := hmk
    replace h : slices_IndexFunc_string_string_b1 p0x0 fnb n2 = some z1 := h
    unfold slices_IndexFunc_string_string_b1 at h
    refine tSR<|ARun.qv (q_lss J J) J<|rN<|tS<|ATodo.cond_d J (fun hc=>?_) (fun hc=>?_)
    · refine have h := iteT hc h; tK<|tS<|ATodo.block<|tSR<|rM J J<|rA J J<|rN<|tSR<|rM J J<|rM J J<|rM J J<|bndE h fun v3 e1 h=>ARun.qv (t_index J J J e1 J J) J<|ARun.qv (q_load_rptr J J J) J<|bndE h fun v4 e2 h=>r_callvp J J (fnb_h e2) (CoL.refl _) J<|rN<|ATodo.cond J (fun hc=>?_) (fun hc=>?_)
      · refine have h := iteT hc h; tSR<|rM J J<|rA J J<|rN<|ATodo.ret<|have h := outL h hA1; ?_
        obtain rfl := Option.some.inj h
        exact ImpX.here ⟨_,.cons (.tmp _ _ J) .nil,J⟩
      · refine have h := iteFb hc h; tK<|ATodo.blk<|tR<|ARun.qv (q_addw J J) J<|rM J J<|rN<|ATodo.stop<|?_
        obtain rfl := Option.some.inj h
        exact hJ1 _ _ J<|ImpX.lq [] J J J
    · refine have h := iteF hc h; ATodo.exit J<|have h := outL h hA1; tSR<|rA J J<|rN<|ATodo.ret<|?_
      obtain rfl := Option.some.inj h
      exact ImpX.here ⟨_,.cons (.tmp _ _ J) .nil,J⟩

theorem slices_ContainsFunc_string_string_c [GI : GTab] {p0x0 : List Str} {fnb : Str → Option Bool} {fnb_F : FuncId} [IsFn Tryz.prog fnb_F] {fnb_C : List AV} (fnb_h : ∀ {y0 : _} {u : Bool},fnb y0 = some u → Pu Tryz.prog fnb_F (.str y0 ::  fnb_C) (.bool u)) {r : Bool} (h : slices_ContainsFunc_string_string p0x0 fnb = some r) : Pu Tryz.prog 58 [.list 1 (p0x0.map AV.str),.func (.func fnb_F) fnb_C] (.bool r) := by
  unfold slices_ContainsFunc_string_string at h
  refine ACall.bodyN Tryz.func58 J Tryz.ntmps58 Tryz.results58 J J ?_
  refine tSR<|rA J J<|rN<|tSR<|rM J J<|rM J J<|bndE h fun v1 e1 h=>r_callpB J (slices_IndexFunc_string_string_c fnb_h e1) (.cons (.co (.refl _)) (.cons (.co (.refl _)) .nil)) J J<|ARun.qv (q_geq J J) J<|rA J J<|rN<|ATodo.ret<|?_
  obtain rfl := Option.some.inj h
  exact ImpX.here ⟨_,.cons (.tmp _ _ J) .nil,J⟩

theorem internal_stringslite_HasPrefix_c [GI : GTab] {p0x0 : Str} {p1x0 : Str} {r : Bool} (h : internal_stringslite_HasPrefix p0x0 p1x0 = some r) : Pu Tryz.prog 197 [.str p0x0,.str p1x0] (.bool r) := by
  unfold internal_stringslite_HasPrefix at h
  refine ACall.bodyN Tryz.func197 J Tryz.ntmps197 Tryz.results197 J J ?_
  refine tSR<|rA J J<|rN<|tS<|ATodo.cut (fun σ'=>∃ (c1 : Bool),internal_stringslite_HasPrefix_j1 c1 = some r ∧ σ' = ⟨18,[(4,.bool c1)],[]⟩) ?_ ?_
  · refine tR<|rM J J<|ARun.qv (q_len_str J) J<|rM J J<|ARun.qv (q_len_str J) J<|ARun.qv (q_geq J J) J<|rM J J<|ARun.guard_dt J J J (fun hc=>?_) (fun hc=>?_)
    · exact have h := iteT hc h; rM J J<|rY J J J<|rM J J<|rY J J J<|ARun.qv (q_len_str J) J<|rY J J J<|bndE h fun l2 e1 h=>ARun.qv (t_slice_str J .none (.some _ _ _ J) J J e1) J<|rY J J J<|rM J J<|rY J J J<|ARun.qv (q_seq J J) J<|rT J J J<|rA J J<|rN<|ATodo.stop<|ImpX.lq [] ⟨decide (l2 = p1x0),h,J⟩ J J
    · exact have h := iteF hc h; rG J J J J<|rG J J J J<|rG J J J J<|rG J J J J<|rG J J J J<|rE J J J<|rA J J<|rN<|ATodo.stop<|ImpX.lq [] ⟨false,h,J⟩ J J
  · rintro σ' ⟨c1, h, rfl⟩
    unfold internal_stringslite_HasPrefix_j1 at h
    refine ATodo.ret<|?_
    obtain rfl := Option.some.inj h
    exact ImpX.here ⟨_,.cons (.tmp _ _ J) .nil,J⟩

theorem strings_HasPrefix_c [GI : GTab] {p0x0 : Str} {p1x0 : Str} {r : Bool} (h : strings_HasPrefix p0x0 p1x0 = some r) : Pu Tryz.prog 144 [.str p0x0,.str p1x0] (.bool r) := by
  unfold strings_HasPrefix at h
  refine ACall.bodyN Tryz.func144 J Tryz.ntmps144 Tryz.results144 J J ?_
  refine tSR<|rA J J<|rN<|tSR<|rM J J<|rM J J<|bndE h fun v1 e1 h=>r_callp J (internal_stringslite_HasPrefix_c e1) (CoL.refl _) J<|rA J J<|rN<|ATodo.ret<|?_
  obtain rfl := Option.some.inj h
  exact ImpX.here ⟨_,.cons (.tmp _ _ J) .nil,J⟩

theorem tenant_covers_c [GI : GTab] {p0x0 : Str} {p1x0 : Str} {r : Bool} (h : tenant_covers p0x0 p1x0 = some r) : Pu Tryz.prog 195 [.str p0x0,.str p1x0] (.bool r) := by
  unfold tenant_covers at h
  refine ACall.bodyN Tryz.func195 J Tryz.ntmps195 Tryz.results195 J J ?_
  refine tSR<|rA J J<|rN<|tSR<|rM J J<|bndE h fun v1 e1 h=>r_callp J (strings_CutSuffix_c e1) (CoL.refl _) J<|rM J J<|rX J J J<|rX J J J<|rA J J<|rA J J<|rN<|tS<|ATodo.cut (fun σ'=>∃ (c2 : Bool),tenant_covers_j1 c2 = some r ∧ σ' = ⟨23,[(4,.bool c2)],[]⟩) ?_ ?_
  · refine tR<|rM J J<|rM J J<|ARun.qv (q_seq J J) J<|rM J J<|ARun.guard_df J J J (fun hc=>?_) (fun hc=>?_)
    · refine have h := iteF hc h; rM J J<|rY J J J<|rM J J<|ARun.guard J J J (fun hc=>?_) (fun hc=>?_)
      · exact have h := iteT hc h; rM J J<|rY J J J<|rM J J<|rY J J J<|bndE h fun v3 e2 h=>r_callp J (strings_HasPrefix_c e2) (CoL.refl _) J<|rY J J J<|rT J J J<|rE J J J<|rA J J<|rN<|ATodo.stop<|ImpX.lq [] ⟨v3,h,J⟩ J J
      · exact have h := iteFb hc h; rG J J J J<|rG J J J J<|rY J J J<|rE J J J<|rE J J J<|rA J J<|rN<|ATodo.stop<|ImpX.lq [] ⟨false,h,J⟩ J J
    · exact have h := iteT hc h; rG J J J J<|ARun.guard_und J J J<|ARun.guard_und J J J<|ARun.guard_und J J J<|rG J J J J<|rT J J J<|rA J J<|rN<|ATodo.stop<|ImpX.lq [] ⟨true,h,J⟩ J J
  · rintro σ' ⟨c2, h, rfl⟩
    unfold tenant_covers_j1 at h
    refine ATodo.ret<|?_
    obtain rfl := Option.some.inj h
    exact ImpX.here ⟨_,.cons (.tmp _ _ J) .nil,J⟩

theorem tenant_covered_1x_c [GI : GTab] {p0x0 : Str} {p1x0 : Str} {r : Bool} (h : tenant_covered_1x p0x0 p1x0 = some r) : Pu Tryz.prog 194 [.str p0x0,.rptr [.str p1x0]] (.bool r) := by
  unfold tenant_covered_1x at h
  refine ACall.bodyN Tryz.func194 J Tryz.ntmps194 Tryz.results194 J J ?_
  refine tSR<|rA J J<|rN<|tSR<|rM J J<|ARun.qv (q_load_rptr J J J) J<|bndE h fun v1 e1 h=>r_callp J (tenant_covers_c e1) (CoL.refl _) J<|rA J J<|rN<|ATodo.ret<|?_
  obtain rfl := Option.some.inj h
  exact ImpX.here ⟨_,.cons (.tmp _ _ J) .nil,J⟩

theorem tenant_covered_c [GI : GTab] {p0x0 : List Str} {p1x0 : Str} {r : Bool} (h : tenant_covered p0x0 p1x0 = some r) : Pu Tryz.prog 141 [.list 1 (p0x0.map AV.str),.str p1x0] (.bool r) := by
  unfold tenant_covered at h
  refine ACall.bodyN Tryz.func141 J Tryz.ntmps141 Tryz.results141 J J ?_
  refine tSR<|n_box J J J J fun b1=>rA J J<|rN<|tSR<|rM J J<|ARun.qv (q_makeFunc J) J<|bndE h fun v2 e1 h=>r_callpB J (slices_ContainsFunc_string_string_c (fun e=>tenant_covered_1x_c e) e1) (.cons (.co (.refl _)) (.cons (.funcL _ _ _ (.cons (.boxL _ _ _ .p0 (.cons (.co (.refl _)) .nil)) .nil)) .nil)) J J<|rA J J<|rN<|ATodo.ret<|?_
  obtain rfl := Option.some.inj h
  exact ImpX.here ⟨_,.cons (.tmp _ _ J) .nil,J⟩

theorem tenant_allCovered_1x_c [GI : GTab] {p0x0 : Str} {p1x0 : List Str} {r : Bool} (h : tenant_allCovered_1x p0x0 p1x0 = some r) : Pu Tryz.prog 140 [.str p0x0,.rptr [.list 1 (p1x0.map AV.str)]] (.bool r) := by
  unfold tenant_allCovered_1x at h
  refine ACall.bodyN Tryz.func140 J Tryz.ntmps140 Tryz.results140 J J ?_
  refine tSR<|rA J J<|rN<|tSR<|ARun.qv (q_load_rptr J J J) J<|rM J J<|bndE h fun v1 e1 h=>r_callp J (tenant_covered_c e1) (CoL.refl _) J<|ARun.qv (q_not J) J<|rA J J<|rN<|ATodo.ret<|?_
  obtain rfl := Option.some.inj h
  exact ImpX.here ⟨_,.cons (.tmp _ _ J) .nil,J⟩

theorem tenant_allCovered_c [GI : GTab] {p0x0 : List Str} {p1x0 : List Str} {r : Bool} (h : tenant_allCovered p0x0 p1x0 = some r) : Pu Tryz.prog 62 [.list 1 (p0x0.map AV.str),.list 1 (p1x0.map AV.str)] (.bool r) := by
  unfold tenant_allCovered at h
  refine ACall.bodyN Tryz.func62 J Tryz.ntmps62 Tryz.results62 J J ?_
  refine tSR<|n_box J J J J fun b1=>rA J J<|rN<|tSR<|rM J J<|ARun.qv (q_makeFunc J) J<|bndE h fun v2 e1 h=>r_callpB J (slices_ContainsFunc_string_string_c (fun e=>tenant_allCovered_1x_c e) e1) (.cons (.co (.refl _)) (.cons (.funcL _ _ _ (.cons (.boxL _ _ _ .p0 (.cons (.co (.refl _)) .nil)) .nil)) .nil)) J J<|ARun.qv (q_not J) J<|rA J J<|rN<|ATodo.ret<|?_
  obtain rfl := Option.some.inj h
  exact ImpX.here ⟨_,.cons (.tmp _ _ J) .nil,J⟩

theorem tenant_Covers_c {p0x0 : List Str} {p1x0 : List Str} {r : Bool × Int} (h : tenant_Covers p0x0 p1x0 = some r) : Pu Tryz.prog 10 [.list 1 (p0x0.map AV.str),.list 1 (p1x0.map AV.str)] (.tup [.bool r.1,I r.2]) := by
  unfold tenant_Covers at h
  refine ACall.bodyN Tryz.func10 J Tryz.ntmps10 Tryz.results10 J J ?_
  refine tSR<|rA J J<|rA J J<|rN<|tS<|tSR<|rM J J<|rM J J<|n_buildSliceL (xs := ([p0x0,p1x0] : List (List Str)).map (encL 1 AV.str)) J J J J J J<|bndE h fun v1 e1 h=>t_call1 J (slices_Concat_string_string_c e1) (CoL.refl _) .nil (fun _=>J) J fun b2=>bndE h fun v3 e2 h=>r_callpB J (slices_ContainsFunc_string_string_c (fun e=>tenant_Covers_1x_c e) e2) (.cons (CoB.arrT .p0) (.cons (.funcL _ _ _ .nil) .nil)) J J<|rN<|ATodo.cond J (fun hc=>?_) (fun hc=>?_)
  · refine have h := iteT hc h; tSR<|rA J J<|rA J J<|rN<|ATodo.ret<|?_
    obtain rfl := Option.some.inj h
    exact ImpX.here ⟨_,.cons (.tmp _ _ J) (.cons (.tmp _ _ J) .nil),J⟩
  · refine have h := iteFb hc h; tK<|tS<|tS<|ATodo.cut (fun σ'=>∃ (c4 : Bool),tenant_Covers_j1 p0x0 p1x0 c4 = some r ∧ σ' = ⟨22,[(0,.list 1 (p0x0.map AV.str)),(1,.list 1 (p1x0.map AV.str)),(18,.bool c4)],[]⟩) ?_ ?_
    · refine tR<|rM J J<|ARun.qv (t_len J) J<|ARun.qv (q_gtr J J) J<|rM J J<|ARun.guard_df J J J (fun hc=>?_) (fun hc=>?_)
      · rw [orFd hc] at h
        exact rM J J<|rY J J J<|ARun.qv (t_len J) J<|rY J J J<|ARun.qv (q_gtr J J) J<|rE J J J<|rN<|ATodo.stop<|ImpX.lq [] ⟨decide ((50 : Int) < (p1x0.length : Int)),h,J⟩ J J
      · rw [orTd hc] at h
        exact rG J J J J<|rG J J J J<|rT J J J<|rN<|ATodo.stop<|ImpX.lq [] ⟨true,h,J⟩ J J
    · rintro σ' ⟨c4, h, rfl⟩
      unfold tenant_Covers_j1 at h
      refine ATodo.cond J (fun hc=>?_) (fun hc=>?_)
      · refine have h := iteT hc h; tSR<|rA J J<|rA J J<|rN<|ATodo.ret<|?_
        obtain rfl := Option.some.inj h
        exact ImpX.here ⟨_,.cons (.tmp _ _ J) (.cons (.tmp _ _ J) .nil),J⟩
      · refine have h := iteFb hc h; tK<|tSR<|rM J J<|rM J J<|bndE h fun v5 e3 h=>r_callp J (tenant_allCovered_c e3) (CoL.refl _) J<|rA J J<|rA J J<|rN<|ATodo.ret<|?_
        obtain rfl := Option.some.inj h
        exact ImpX.here ⟨_,.cons (.tmp _ _ J) (.cons (.tmp _ _ J) .nil),J⟩

theorem Q_in_c [GI : GTab] {p0x0 : Int} {p1x0 : Int} {p2x0 : Int} {r : Bool} (h : Q_in p0x0 p1x0 p2x0 = r) : Pu Tryz.prog 85 [I p0x0,I p1x0,I p2x0] (.bool r) := by
  unfold Q_in at h
  refine ACall.bodyN Tryz.func85 J Tryz.ntmps85 Tryz.results85 J J ?_
  refine tSR<|rA J J<|rN<|tS<|ATodo.cut (fun σ'=>∃ (c1 : Bool),Q_in_j1 c1 = r ∧ σ' = ⟨15,[(6,.bool c1)],[]⟩) ?_ ?_
  · refine tR<|rM J J<|rM J J<|ARun.qv (q_leq J J) J<|rM J J<|ARun.guard_dt J J J (fun hc=>?_) (fun hc=>?_)
    · rw [andTd hc] at h
      exact rM J J<|rY J J J<|rM J J<|rY J J J<|ARun.qv (q_leq J J) J<|rT J J J<|rA J J<|rN<|ATodo.stop<|ImpX.lq [] ⟨decide (p0x0 ≤ p2x0),h,J⟩ J J
    · rw [andFd hc] at h
      exact rG J J J J<|rG J J J J<|rE J J J<|rA J J<|rN<|ATodo.stop<|ImpX.lq [] ⟨false,h,J⟩ J J
  · rintro σ' ⟨c1, h, rfl⟩
    unfold Q_in_j1 at h
    refine ATodo.ret<|?_
    obtain rfl := h
    exact ImpX.here ⟨_,.cons (.tmp _ _ J) .nil,J⟩

theorem Q_Key_c {p0x0 : Str} {r : Bool} (h : Q_Key p0x0 = some r) : Pu Tryz.prog 69 [.str p0x0] (.bool r) := by
  unfold Q_Key at h
  refine ACall.bodyN Tryz.func69 J Tryz.ntmps69 Tryz.results69 J J ?_
  refine tSR<|rA J J<|rN<|tS<|ATodo.cut (fun σ'=>∃ (c1 : Bool),Q_Key_j1 c1 = some r ∧ σ' = ⟨17,[(2,.bool c1)],[]⟩) ?_ ?_
  · refine tR<|rM J J<|ARun.qv (q_len_str J) J<|r_callp J (Q_in_c J) (CoL.refl _) J<|rM J J<|ARun.guard J J J (fun hc=>?_) (fun hc=>?_)
    · refine have h := iteT hc h; rM J J<|rY J J J<|bndE h fun v2 e1 h=>r_callp J (strings_Trim_c e1) (CoL.refl _) J<|rY J J J<|ARun.qv (q_seq J J) J<|rT J J J<|rM J J<|ARun.guard_dt J J J (fun hc=>?_) (fun hc=>?_)
      · exact have h := iteT hc h; rM J J<|rY J J J<|bndE h fun c3 e2 h=>ARun.qv (t_index_str J J e2) J<|rY J J J<|r_callp J (strings_IndexByte_c J) (CoL.refl _) J<|rY J J J<|ARun.qv (q_geq J J) J<|rT J J J<|rA J J<|rN<|ATodo.stop<|ImpX.lq [] ⟨decide ((0 : Int) ≤ (indexByteI ([97,98,99,100,101,102,103,104,105,106,107,108,109,110,111,112,113,114,115,116,117,118,119,120,121,122] : Str) (c3.toNat : Int))),h,J⟩ J J
      · exact have h := iteF hc h; rG J J J J<|rG J J J J<|rG J J J J<|rE J J J<|rA J J<|rN<|ATodo.stop<|ImpX.lq [] ⟨false,h,J⟩ J J
    · exact have h := iteFb hc h; rG J J J J<|rG J J J J<|rE J J J<|rM J J<|rG J J J J<|rG J J J J<|rG J J J J<|rG J J J J<|rE J J J<|rA J J<|rN<|ATodo.stop<|ImpX.lq [] ⟨false,h,J⟩ J J
  · rintro σ' ⟨c1, h, rfl⟩
    unfold Q_Key_j1 at h
    refine ATodo.ret<|?_
    obtain rfl := Option.some.inj h
    exact ImpX.here ⟨_,.cons (.tmp _ _ J) .nil,J⟩

theorem Q_ActRight_1x_c {p0x0 : Str} {r : Bool} (h : Q_ActRight_1x p0x0 = some r) : Pu Tryz.prog 143 [.str p0x0] (.bool r) := by
  unfold Q_ActRight_1x at h
  refine ACall.bodyN Tryz.func143 J Tryz.ntmps143 Tryz.results143 J J ?_
  refine tSR<|rA J J<|rN<|tSR<|rM J J<|bndE h fun v1 e1 h=>r_callp J (Q_Key_c e1) (CoL.refl _) J<|ARun.qv (q_not J) J<|rA J J<|rN<|ATodo.ret<|?_
  obtain rfl := Option.some.inj h
  exact ImpX.here ⟨_,.cons (.tmp _ _ J) .nil,J⟩

theorem Q_ActRight_c {p0x0 : Str} {p1x0 : Bool} {r : Bool} (h : Q_ActRight p0x0 p1x0 = some r) : Pu Tryz.prog 63 [.str p0x0,.bool p1x0] (.bool r) := by
  unfold Q_ActRight at h
  refine ACall.bodyN Tryz.func63 J Tryz.ntmps63 Tryz.results63 J J ?_
  refine tSR<|rA J J<|rN<|tSR<|rM J J<|bndE h fun v1 e1 h=>t_call1 J (strings_Split_c e1) (CoL.refl _) .nil (fun _=>J) J fun b2=>rA J J<|rN<|tS<|tSR<|rM J J<|ARun.qv (t_len_sl J) J<|ARun.qv (q_subw J J) J<|rA J J<|rN<|tS<|ATodo.cut (fun σ'=>∃ (c3 : Bool),Q_ActRight_j1 p0x0 v1 c3 = some r ∧ σ' = ⟨39,[(0,.str p0x0),(5,.sl 1 b2 0 v1.length),(6,I (w64 ((v1.length : Int) - (1 : Int)))),(20,.bool c3)],[(b2,.arr 1 (v1.map AV.str))]⟩) ?_ ?_
  · refine tR<|rM J J<|ARun.qv (q_not J) J<|rM J J<|ARun.guard J J J (fun hc=>?_) (fun hc=>?_)
    · exact have h := iteT hc h; rM J J<|rY J J J<|rM J J<|rY J J J<|bndE h fun v4 e2 h=>ARun.qv (t_index_sl J J J e2) J<|rY J J J<|ARun.qv (t_load_aptr (g := AV.str) J J (.inl .p0) e2 J) J<|rY J J J<|ARun.qv (q_seq J J) J<|rT J J J<|rN<|ATodo.stop<|ImpX.lq [0] ⟨decide (v4 = ([42] : Str)),h,J⟩ J J
    · exact have h := iteFb hc h; rG J J J J<|rG J J J J<|rG J J J J<|rG J J J J<|rE J J J<|rN<|ATodo.stop<|ImpX.lq [0] ⟨false,h,J⟩ J J
  · rintro σ' ⟨c3, h, rfl⟩
    unfold Q_ActRight_j1 at h
    refine ATodo.cut (fun σ'=>∃ (l5 : List Str),Q_ActRight_j2 p0x0 l5 = some r ∧ σ' = ⟨39,[(0,.str p0x0),(5,.sl 1 b2 0 l5.length)],[(b2,.arr 1 (l5.map AV.str))]⟩) ?_ ?_
    · refine ATodo.cond J (fun hc=>?_) (fun hc=>?_)
      · exact have h := iteT hc h; tR<|rM J J<|rM J J<|bndE h fun l6 e3 h=>ARun.qv (t_slice_sl J J .none (.some _ _ _ J) J J e3) J<|rA J J<|ARun.ghost<|ImpX.takeT e3 .p0<|ImpX.here<|rN<|ATodo.stop<|ImpX.lq [0] ⟨l6,h,J⟩ J J
      · refine have h := iteFb hc h; tSR<|rM J J<|rM J J<|bndE h fun v7 e4 h=>ARun.qv (t_index_sl J J J e4) J<|ARun.qv (t_load_aptr (g := AV.str) J J (.inl .p0) e4 J) J<|bndE h fun v8 e5 h=>r_callp J (Q_Key_c e5) (CoL.refl _) J<|ARun.qv (q_not J) J<|rN<|ATodo.cond J (fun hc=>?_) (fun hc=>?_)
        · refine have h := iteT hc h; tSR<|rA J J<|rN<|ATodo.ret<|?_
          obtain rfl := Option.some.inj h
          exact ImpX.here ⟨_,.cons (.tmp _ _ J) .nil,J⟩
        · exact have h := iteFb hc h; tK<|ATodo.stop<|ImpX.lq [0] ⟨v1,h,J⟩ J J
    · rintro σ' ⟨l5, h, rfl⟩
      unfold Q_ActRight_j2 at h
      refine tS<|ATodo.cut (fun σ'=>∃ (c9 : Bool),Q_ActRight_j3 c9 = some r ∧ σ' = ⟨39,[(4,.bool c9)],[]⟩) ?_ ?_
      · refine tR<|rM J J<|bndE h fun v10 e6 h=>t_call1 J (strings_Split_c e6) (CoL.refl _) .nil (fun _=>J) J fun b11=>ARun.qv (t_len_sl J) J<|ARun.qv (q_leq J J) J<|rM J J<|ARun.guard_dt J J J (fun hc=>?_) (fun hc=>?_)
        · exact have h := iteT hc h; rM J J<|rY J J J<|bndE h fun v12 e7 h=>r_callpB J (slices_ContainsFunc_string_string_c (fun e=>Q_ActRight_1x_c e) e7) (.cons (CoB.arrT .p1) (.cons (.funcL _ _ _ .nil) .nil)) J J<|rY J J J<|ARun.qv (q_not J) J<|rT J J J<|rA J J<|rN<|ATodo.stop<|ImpX.lq [] ⟨!v12,h,J⟩ J J
        · exact have h := iteF hc h; rG J J J J<|rG J J J J<|rE J J J<|rA J J<|rN<|ATodo.stop<|ImpX.lq [] ⟨false,h,J⟩ J J
      · rintro σ' ⟨c9, h, rfl⟩
        unfold Q_ActRight_j3 at h
        refine ATodo.ret<|?_
        obtain rfl := Option.some.inj h
        exact ImpX.here ⟨_,.cons (.tmp _ _ J) .nil,J⟩

theorem Q_CoversFault_c {p0x0 : List Str} {p1x0 : List Str} {r : Int} (h : Q_CoversFault p0x0 p1x0 = some r) : Pu Tryz.prog 11 [.list 1 (p0x0.map AV.str),.list 1 (p1x0.map AV.str)] (I r) := by
  unfold Q_CoversFault at h
  refine ACall.bodyN Tryz.func11 J Tryz.ntmps11 Tryz.results11 J J ?_
  refine tSR<|rA J J<|rN<|tS<|tSR<|rM J J<|rM J J<|n_buildSliceL (xs := ([p0x0,p1x0] : List (List Str)).map (encL 1 AV.str)) J J J J J J<|bndE h fun v1 e1 h=>t_call1 J (slices_Concat_string_string_c e1) (CoL.refl _) .nil (fun _=>J) J fun b2=>ARun.qv (t_len_sl J) J<|rM J J<|rN<|ATodo.block<|ATodo.loopI (fun x : Int=>Q_CoversFault_b1 p0x0 p1x0 v1 x) (fun x σ'=>σ' = ⟨28,[(0,.list 1 (p0x0.map AV.str)),(1,.list 1 (p1x0.map AV.str)),(10,.sl 1 b2 0 v1.length),(11,I (v1.length : Int)),(12,I x)],[(b2,.arr 1 (v1.map AV.str))]⟩) h ?_ ?_
  · exact ImpX.lq [0] J J J
  · intro n4 z1 σ' J1 hmk h hJ1 hA1
    obtain rfl := hmk
    replace h : Q_CoversFault_b1 p0x0 p1x0 v1 n4 = some z1 := h
    unfold Q_CoversFault_b1 at h
    refine tSR<|ARun.qv (q_lss J J) J<|rN<|tS<|ATodo.cond_d J (fun hc=>?_) (fun hc=>?_)
    · refine have h := iteT hc h; tK<|tS<|ATodo.block<|tSR<|bndE h fun v5 e2 h=>ARun.qv (t_index_sl J J J e2) J<|ARun.qv (t_load_aptr (g := AV.str) J J (.inl .p0) e2 J) J<|rA J J<|rN<|tSR<|rM J J<|bndE h fun v6 e3 h=>r_callp J (Q_ActRight_c e3) (CoL.refl _) J<|ARun.qv (q_not J) J<|rN<|ATodo.cond J (fun hc=>?_) (fun hc=>?_)
      · refine have h := iteT hc h; tSR<|rA J J<|rN<|ATodo.ret<|have h := outL h hA1; ?_
        obtain rfl := Option.some.inj h
        exact ImpX.here ⟨_,.cons (.tmp _ _ J) .nil,J⟩
      · refine have h := iteFb hc h; tK<|ATodo.blk<|tR<|ARun.qv (q_addw J J) J<|rM J J<|rN<|ATodo.stop<|?_
        obtain rfl := Option.some.inj h
        exact hJ1 _ _ J<|ImpX.lq [0] J J J
    · refine have h := iteF hc h; ATodo.exit J<|have h := outL h hA1; tS<|tS<|ATodo.cut (fun σ'=>∃ (c7 : Bool),Q_CoversFault_j1 c7 = some r ∧ σ' = ⟨28,[(27,.bool c7)],[]⟩) ?_ ?_
      · refine tR<|rM J J<|ARun.qv (t_len J) J<|ARun.qv (q_gtr J J) J<|rM J J<|ARun.guard_df J J J (fun hc=>?_) (fun hc=>?_)
        · rw [orFd hc] at h
          exact rM J J<|rY J J J<|ARun.qv (t_len J) J<|rY J J J<|ARun.qv (q_gtr J J) J<|rE J J J<|rN<|ATodo.stop<|ImpX.lq [] ⟨decide ((50 : Int) < (p1x0.length : Int)),h,J⟩ J J
        · rw [orTd hc] at h
          exact rG J J J J<|rG J J J J<|rT J J J<|rN<|ATodo.stop<|ImpX.lq [] ⟨true,h,J⟩ J J
      · rintro σ' ⟨c7, h, rfl⟩
        unfold Q_CoversFault_j1 at h
        refine ATodo.cond J (fun hc=>?_) (fun hc=>?_)
        · refine have h := iteT hc h; tSR<|rA J J<|rN<|ATodo.ret<|?_
          obtain rfl := Option.some.inj h
          exact ImpX.here ⟨_,.cons (.tmp _ _ J) .nil,J⟩
        · refine have h := iteFb hc h; tK<|tSR<|rA J J<|rN<|ATodo.ret<|?_
          obtain rfl := Option.some.inj h
          exact ImpX.here ⟨_,.cons (.tmp _ _ J) .nil,J⟩

theorem Q_covered_c [GI : GTab] {p0x0 : Str} {p1x0 : Str} {r : Bool} (h : Q_covered p0x0 p1x0 = some r) : Pu Tryz.prog 66 [.str p0x0,.str p1x0] (.bool r) := by
  unfold Q_covered at h
  refine ACall.bodyN Tryz.func66 J Tryz.ntmps66 Tryz.results66 J J ?_
  refine tSR<|rA J J<|rN<|tSR<|rM J J<|bndE h fun v1 e1 h=>r_callp J (strings_CutSuffix_c e1) (CoL.refl _) J<|rM J J<|rX J J J<|rX J J J<|rA J J<|rA J J<|rN<|tS<|ATodo.cut (fun σ'=>∃ (c2 : Bool),Q_covered_j1 c2 = some r ∧ σ' = ⟨23,[(4,.bool c2)],[]⟩) ?_ ?_
  · refine tR<|rM J J<|rM J J<|ARun.qv (q_seq J J) J<|rM J J<|ARun.guard_df J J J (fun hc=>?_) (fun hc=>?_)
    · refine have h := iteF hc h; rM J J<|rY J J J<|rM J J<|ARun.guard J J J (fun hc=>?_) (fun hc=>?_)
      · exact have h := iteT hc h; rM J J<|rY J J J<|rM J J<|rY J J J<|bndE h fun v3 e2 h=>r_callp J (strings_HasPrefix_c e2) (CoL.refl _) J<|rY J J J<|rT J J J<|rE J J J<|rA J J<|rN<|ATodo.stop<|ImpX.lq [] ⟨v3,h,J⟩ J J
      · exact have h := iteFb hc h; rG J J J J<|rG J J J J<|rY J J J<|rE J J J<|rE J J J<|rA J J<|rN<|ATodo.stop<|ImpX.lq [] ⟨false,h,J⟩ J J
    · exact have h := iteT hc h; rG J J J J<|ARun.guard_und J J J<|ARun.guard_und J J J<|ARun.guard_und J J J<|rG J J J J<|rT J J J<|rA J J<|rN<|ATodo.stop<|ImpX.lq [] ⟨true,h,J⟩ J J
  · rintro σ' ⟨c2, h, rfl⟩
    unfold Q_covered_j1 at h
    refine ATodo.ret<|?_
    obtain rfl := Option.some.inj h
    exact ImpX.here ⟨_,.cons (.tmp _ _ J) .nil,J⟩

theorem Q_CoversAll_1x_1x_c [GI : GTab] {p0x0 : Str} {p1x0 : Str} {r : Bool} (h : Q_CoversAll_1x_1x p0x0 p1x0 = some r) : Pu Tryz.prog 65 [.str p0x0,.rptr [.str p1x0]] (.bool r) := by
  unfold Q_CoversAll_1x_1x at h
  refine ACall.bodyN Tryz.func65 J Tryz.ntmps65 Tryz.results65 J J ?_
  refine tSR<|rA J J<|rN<|tSR<|rM J J<|ARun.qv (q_load_rptr J J J) J<|bndE h fun v1 e1 h=>r_callp J (Q_covered_c e1) (CoL.refl _) J<|rA J J<|rN<|ATodo.ret<|?_
  obtain rfl := Option.some.inj h
  exact ImpX.here ⟨_,.cons (.tmp _ _ J) .nil,J⟩

theorem Q_CoversAll_1x_c [GI : GTab] {p0x0 : Str} {p1x0 : List Str} {r : Bool} (h : Q_CoversAll_1x p0x0 p1x0 = some r) : Pu Tryz.prog 64 [.str p0x0,.rptr [.list 1 (p1x0.map AV.str)]] (.bool r) := by
  unfold Q_CoversAll_1x at h
  refine ACall.bodyN Tryz.func64 J Tryz.ntmps64 Tryz.results64 J J ?_
  refine tSR<|n_box J J J J fun b1=>rA J J<|rN<|tSR<|ARun.qv (q_load_rptr J J J) J<|ARun.qv (q_makeFunc J) J<|bndE h fun v2 e1 h=>r_callpB J (slices_ContainsFunc_string_string_c (fun e=>Q_CoversAll_1x_1x_c e) e1) (.cons (.co (.refl _)) (.cons (.funcL _ _ _ (.cons (.boxL _ _ _ .p0 (.cons (.co (.refl _)) .nil)) .nil)) .nil)) J J<|ARun.qv (q_not J) J<|rA J J<|rN<|ATodo.ret<|?_
  obtain rfl := Option.some.inj h
  exact ImpX.here ⟨_,.cons (.tmp _ _ J) .nil,J⟩

theorem Q_CoversAll_c [GI : GTab] {p0x0 : List Str} {p1x0 : List Str} {r : Bool} (h : Q_CoversAll p0x0 p1x0 = some r) : Pu Tryz.prog 12 [.list 1 (p0x0.map AV.str),.list 1 (p1x0.map AV.str)] (.bool r) := by
  unfold Q_CoversAll at h
  refine ACall.bodyN Tryz.func12 J Tryz.ntmps12 Tryz.results12 J J ?_
  refine tSR<|n_box J J J J fun b1=>rA J J<|rN<|tSR<|rM J J<|ARun.qv (q_makeFunc J) J<|bndE h fun v2 e1 h=>r_callpB J (slices_ContainsFunc_string_string_c (fun e=>Q_CoversAll_1x_c e) e1) (.cons (.co (.refl _)) (.cons (.funcL _ _ _ (.cons (.boxL _ _ _ .p0 (.cons (.co (.refl _)) .nil)) .nil)) .nil)) J J<|ARun.qv (q_not J) J<|rA J J<|rN<|ATodo.ret<|?_
  obtain rfl := Option.some.inj h
  exact ImpX.here ⟨_,.cons (.tmp _ _ J) .nil,J⟩

theorem Q_tenantAt_1x_c [GI : GTab] {p0x0 : Tenant} {p1x0 : Str} {r : Bool} (h : Q_tenantAt_1x p0x0 p1x0 = r) : Pu Tryz.prog 148 [.agg [.str p0x0.Key,.str p0x0.Parent],.rptr [.str p1x0]] (.bool r) := by
  unfold Q_tenantAt_1x at h
  refine ACall.bodyN Tryz.func148 J Tryz.ntmps148 Tryz.results148 J J ?_
  refine tSR<|n_box J J J J fun b1=>rA J J<|rN<|tSR<|rF J J J<|rL J J .p0 J J<|ARun.qv (q_load_rptr J J J) J<|ARun.qv (q_seq J J) J<|rA J J<|rN<|ATodo.ret<|?_
  obtain rfl := h
  exact ImpX.here ⟨_,.cons (.tmp _ _ J) .nil,J⟩

theorem slices_IndexFunc_Tenant_Tenant_c [GI : GTab] {p0x0 : List Tenant} {fnb : Tenant → Option Bool} {fnb_F : FuncId} [IsFn Tryz.prog fnb_F] {fnb_C : List AV} (fnb_h : ∀ {y0 : _} {u : Bool},fnb y0 = some u → Pu Tryz.prog fnb_F (.agg [.str y0.Key,.str y0.Parent] ::  fnb_C) (.bool u)) {r : Int} (h : slices_IndexFunc_Tenant_Tenant p0x0 fnb = some r) : Pu Tryz.prog 147 [.list 2 (p0x0.map Tenant.av),.func (.func fnb_F) fnb_C] (I r) := by
  unfold slices_IndexFunc_Tenant_Tenant at h
  refine ACall.bodyN Tryz.func147 J Tryz.ntmps147 Tryz.results147 J J ?_
  refine tSR<|rA J J<|rN<|tS<|tSR<|rM J J<|ARun.qv (t_len J) J<|rM J J<|rN<|ATodo.block<|ATodo.loopI (fun x : Int=>slices_IndexFunc_Tenant_Tenant_b1 p0x0 fnb x) (fun x σ'=>σ' = ⟨19,[(0,.list 2 (p0x0.map Tenant.av)),(1,.func (.func fnb_F) fnb_C),(7,I (p0x0.length : Int)),(8,I x)],[]⟩) h ?_ ?_
  · exact ImpX.lq [] J J J
  · intro n2 z1 σ' J1 hmk h hJ1 hA1
    obtain rfl := hmk
    replace h : slices_IndexFunc_Tenant_Tenant_b1 p0x0 fnb n2 = some z1 := h
    unfold slices_IndexFunc_Tenant_Tenant_b1 at h
    refine tSR<|ARun.qv (q_lss J J) J<|rN<|tS<|ATodo.cond_d J (fun hc=>?_) (fun hc=>?_)
    · refine have h := iteT hc h; tK<|tS<|ATodo.block<|tSR<|rM J J<|rA J J<|rN<|tSR<|rM J J<|rM J J<|rM J J<|bndE h fun v3 e1 h=>ARun.qv (t_index J J J e1 J J) J<|ARun.qv (q_load_rptr_agg J J J) J<|bndE h fun v4 e2 h=>r_callvp J J (fnb_h e2) (CoL.refl _) J<|rN<|ATodo.cond J (fun hc=>?_) (fun hc=>?_)
      · refine have h := iteT hc h; tSR<|rM J J<|rA J J<|rN<|ATodo.ret<|have h := outL h hA1; ?_
        obtain rfl := Option.some.inj h
        exact ImpX.here ⟨_,.cons (.tmp _ _ J) .nil,J⟩
      · refine have h := iteFb hc h; tK<|ATodo.blk<|tR<|ARun.qv (q_addw J J) J<|rM J J<|rN<|ATodo.stop<|?_
        obtain rfl := Option.some.inj h
        exact hJ1 _ _ J<|ImpX.lq [] J J J
    · refine have h := iteF hc h; ATodo.exit J<|have h := outL h hA1; tSR<|rA J J<|rN<|ATodo.ret<|?_
      obtain rfl := Option.some.inj h
      exact ImpX.here ⟨_,.cons (.tmp _ _ J) .nil,J⟩

theorem Q_tenantAt_c [GI : GTab] {p0x0 : Org} {p1x0 : Str} {r : Int} (h : Q_tenantAt p0x0 p1x0 = some r) : Pu Tryz.prog 70 [.agg [.list 2 (p0x0.Tenants.map Tenant.av),.list 2 (p0x0.Roles.map Role.av),.list 3 (p0x0.Members.map Member.av),.list 17 (p0x0.Shares.map Share.av)],.str p1x0] (I r) := by
  unfold Q_tenantAt at h
  refine ACall.bodyN Tryz.func70 J Tryz.ntmps70 Tryz.results70 J J ?_
  refine tSR<|n_box J J J J fun b1=>n_box J J J J fun b2=>rA J J<|rN<|tSR<|rF J J J<|rL J J .p1 J J<|ARun.qv (q_makeFunc J) J<|bndE h fun v3 e1 h=>r_callpB J (slices_IndexFunc_Tenant_Tenant_c (fun e=>Q_tenantAt_1x_c (Option.some.inj e)) e1) (.cons (.co (.refl _)) (.cons (.funcL _ _ _ (.cons (.boxL _ _ _ .p0 (.cons (.co (.refl _)) .nil)) .nil)) .nil)) J J<|rA J J<|rN<|ATodo.ret<|?_
  obtain rfl := Option.some.inj h
  exact ImpX.here ⟨_,.cons (.tmp _ _ J) .nil,J⟩

theorem slices_Index_string_string_c [GI : GTab] {p0x0 : List Str} {p1x0 : Str} {r : Int} (h : slices_Index_string_string p0x0 p1x0 = some r) : Pu Tryz.prog 149 [.list 1 (p0x0.map AV.str),.str p1x0] (I r) := by
  unfold slices_Index_string_string at h
  refine ACall.bodyN Tryz.func149 J Tryz.ntmps149 Tryz.results149 J J ?_
  refine tSR<|rA J J<|rN<|tS<|tSR<|rM J J<|ARun.qv (t_len J) J<|rM J J<|rN<|ATodo.block<|ATodo.loopI (fun x : Int=>slices_Index_string_string_b1 p0x0 p1x0 x) (fun x σ'=>σ' = ⟨19,[(0,.list 1 (p0x0.map AV.str)),(1,.str p1x0),(7,I (p0x0.length : Int)),(8,I x)],[]⟩) h ?_ ?_
  · exact ImpX.lq [] J J J
  · intro n2 z1 σ' J1 hmk h hJ1 hA1
    obtain rfl := hmk
    replace h : slices_Index_string_string_b1 p0x0 p1x0 n2 = some z1 := h
    unfold slices_Index_string_string_b1 at h
    refine tSR<|ARun.qv (q_lss J J) J<|rN<|tS<|ATodo.cond_d J (fun hc=>?_) (fun hc=>?_)
    · refine have h := iteT hc h; tK<|tS<|ATodo.block<|tSR<|rM J J<|rA J J<|rN<|tSR<|rM J J<|rM J J<|rM J J<|bndE h fun v3 e1 h=>ARun.qv (t_index J J J e1 J J) J<|ARun.qv (q_load_rptr J J J) J<|ARun.qv (q_seq J J) J<|rN<|ATodo.cond_d J (fun hc=>?_) (fun hc=>?_)
      · refine have h := iteT hc h; tSR<|rM J J<|rA J J<|rN<|ATodo.ret<|have h := outL h hA1; ?_
        obtain rfl := Option.some.inj h
        exact ImpX.here ⟨_,.cons (.tmp _ _ J) .nil,J⟩
      · refine have h := iteF hc h; tK<|ATodo.blk<|tR<|ARun.qv (q_addw J J) J<|rM J J<|rN<|ATodo.stop<|?_
        obtain rfl := Option.some.inj h
        exact hJ1 _ _ J<|ImpX.lq [] J J J
    · refine have h := iteF hc h; ATodo.exit J<|have h := outL h hA1; tSR<|rA J J<|rN<|ATodo.ret<|?_
      obtain rfl := Option.some.inj h
      exact ImpX.here ⟨_,.cons (.tmp _ _ J) .nil,J⟩

theorem slices_Contains_string_string_c [GI : GTab] {p0x0 : List Str} {p1x0 : Str} {r : Bool} (h : slices_Contains_string_string p0x0 p1x0 = some r) : Pu Tryz.prog 71 [.list 1 (p0x0.map AV.str),.str p1x0] (.bool r) := by
  unfold slices_Contains_string_string at h
  refine ACall.bodyN Tryz.func71 J Tryz.ntmps71 Tryz.results71 J J ?_
  refine tSR<|rA J J<|rN<|tSR<|rM J J<|rM J J<|bndE h fun v1 e1 h=>r_callp J (slices_Index_string_string_c e1) (CoL.refl _) J<|ARun.qv (q_geq J J) J<|rA J J<|rN<|ATodo.ret<|?_
  obtain rfl := Option.some.inj h
  exact ImpX.here ⟨_,.cons (.tmp _ _ J) .nil,J⟩

theorem Q_pathOf_c [GI : GTab] {p0x0 : Org} {p1x0 : Str} {r : (List Str)} (h : Q_pathOf p0x0 p1x0 = some r) : Pu Tryz.prog 72 [.agg [.list 2 (p0x0.Tenants.map Tenant.av),.list 2 (p0x0.Roles.map Role.av),.list 3 (p0x0.Members.map Member.av),.list 17 (p0x0.Shares.map Share.av)],.str p1x0] (.list 1 (r.map AV.str)) := by
  unfold Q_pathOf at h
  refine ACall.bodyN Tryz.func72 J Tryz.ntmps72 Tryz.results72 J J ?_
  refine tSR<|n_box J J J J fun b1=>rA J J<|rN<|tSR<|rA J J<|rN<|tS<|ATodo.block<|ATodo.loopI (fun x : Str × (List Str)=>Q_pathOf_b1 p0x0 x.1 x.2) (fun x σ'=>∃ (b6 : Bk),σ' = ⟨24,[(1,.str x.1),(2,.ptr b1 0),(5,.sl 1 b6 0 x.2.length)],[(b1,.cells [.list 2 (p0x0.Tenants.map Tenant.av),.list 2 (p0x0.Roles.map Role.av),.list 3 (p0x0.Members.map Member.av),.list 17 (p0x0.Shares.map Share.av)]),(b6,.arr 1 (x.2.map AV.str))]⟩) h ?_ ?_
  · exact ImpX.arr (s := 5) 1 J fun b8=>ImpX.lq [1,0] ⟨b8,J⟩ J J
  · intro x z1 σ' J1 hmk h hJ1 hA1
    obtain ⟨q5, l7⟩ := x
    obtain ⟨b6, rfl⟩ := hmk
    replace h : Q_pathOf_b1 p0x0 q5 l7 = some z1 := h
    unfold Q_pathOf_b1 at h
    refine tS<|tSR<|rM J J<|ARun.qv (q_sne J J) J<|rN<|ATodo.cond_d J (fun hc=>?_) (fun hc=>?_)
    · refine have h := iteT hc h; tK<|ATodo.block<|tS<|tSR<|rM J J<|rM J J<|bndE h fun v9 e1 h=>r_callpB J (slices_Contains_string_string_c e1) (.cons (CoB.arrT .p1) (.cons (.co (.refl _)) .nil)) J J<|rN<|ATodo.cond J (fun hc=>?_) (fun hc=>?_)
      · refine have h := iteT hc h; tSR<|rA J J<|rN<|ATodo.ret<|have h := outL h hA1; ?_
        obtain rfl := Option.some.inj h
        exact ImpX.co (s := 4) J (.nil 1)<|ImpX.here ⟨_,.cons (.tmp _ _ J) .nil,J⟩
      · refine have h := iteFb hc h; tK<|tSR<|rM J J<|rM J J<|n_buildSliceL (xs := ([q5] : List Str).map AV.str) J J J J J J<|bndE h fun l10 e2 h=>t_append (g := AV.str) J J J J J J J J (.list _) e2 (fun _=>.p1) J fun b11=>rA J J<|rN<|ATodo.regionM (id := 6) (A := [0,1,0,0,12,31,63,127,255]) 9 mixed J (by kernel_rfl) (by kernel_rfl)<|AM.qv (n_field_ptr J J) J<|AM.qv (q_load_ptr J J .p0 J) J<|AM.qv (q_load_ptr_all J J .p0 J) J<|AM.qv (q_move J) J<|bndE h fun v12 e3 h=>AM.callp J (Q_tenantAt_c e3) (CoL.refl _) J<|bndE h fun v13 e4 h=>AM.qv (t_index J J J e4 J J) J<|AM.qv (n_field_rptr J J) J<|AM.qv (q_load_rptr J J J) J<|AM.qv (q_assign J) J<|AM.nil<|rN<|ATodo.blk<|ATodo.stop<|?_
        obtain rfl := Option.some.inj h
        exact hJ1 _ _ J<|ImpX.lq [0,0] ⟨b11,J⟩ J J
    · refine have h := iteF hc h; ATodo.exit J<|have h := outL h hA1; tSR<|rM J J<|rA J J<|rN<|ATodo.ret<|?_
      obtain rfl := Option.some.inj h
      exact ImpX.freeze .p1<|ImpX.co (s := 4) J (Co.froT .p1)<|ImpX.here ⟨_,.cons (.tmp _ _ J) .nil,J⟩

theorem Q_pathOf_nil_c [GI : GTab] {p0x0 : Org} {p1x0 : Str} {r : (Option (List Str))} (h : Q_pathOf_nil p0x0 p1x0 = some r) : ACall Tryz.prog 72 [.agg [.list 2 (p0x0.Tenants.map Tenant.av),.list 2 (p0x0.Roles.map Role.av),.list 3 (p0x0.Members.map Member.av),.list 17 (p0x0.Shares.map Share.av)],.str p1x0] [] (TM r (T0 ([]) (.nil)) (fun x=>T1 (fun d_0=>[(d_0,.arr 1 (x.map AV.str))]) (fun d_0=>.sl 1 d_0 0 x.length))) := by
  unfold Q_pathOf_nil at h
  refine ACall.lessH ?_
  refine ACall.bodyN Tryz.func72 J Tryz.ntmps72 Tryz.results72 J J ?_
  refine tSR<|n_box J J J J fun b1=>rA J J<|rN<|tSR<|rA J J<|rN<|tS<|ATodo.block<|ATodo.loopI (fun x : Str × (List Str)=>Q_pathOf_nil_b1 p0x0 x.1 x.2) (fun x σ'=>∃ (b6 : Bk),σ' = ⟨24,[(1,.str x.1),(2,.ptr b1 0),(5,.sl 1 b6 0 x.2.length)],[(b1,.cells [.list 2 (p0x0.Tenants.map Tenant.av),.list 2 (p0x0.Roles.map Role.av),.list 3 (p0x0.Members.map Member.av),.list 17 (p0x0.Shares.map Share.av)]),(b6,.arr 1 (x.2.map AV.str))]⟩) h ?_ ?_
  · exact ImpX.arr (s := 5) 1 J fun b8=>ImpX.lq [1,0] ⟨b8,J⟩ J J
  · intro x z1 σ' J1 hmk h hJ1 hA1
    obtain ⟨q5, l7⟩ := x
    obtain ⟨b6, rfl⟩ := hmk
    replace h : Q_pathOf_nil_b1 p0x0 q5 l7 = some z1 := h
    unfold Q_pathOf_nil_b1 at h
    refine tS<|tSR<|rM J J<|ARun.qv (q_sne J J) J<|rN<|ATodo.cond_d J (fun hc=>?_) (fun hc=>?_)
    · refine have h := iteT hc h; tK<|ATodo.block<|tS<|tSR<|rM J J<|rM J J<|bndE h fun v9 e1 h=>r_callpB J (slices_Contains_string_string_c e1) (.cons (CoB.arrT .p1) (.cons (.co (.refl _)) .nil)) J J<|rN<|ATodo.cond J (fun hc=>?_) (fun hc=>?_)
      · refine have h := iteT hc h; tSR<|rA J J<|rN<|ATodo.ret<|have h := outL h hA1; ?_
        obtain rfl := Option.some.inj h
        exact ImpX.here ⟨_,.cons (.tmp _ _ J) .nil,_,.nil,⟨J,J⟩⟩
      · refine have h := iteFb hc h; tK<|tSR<|rM J J<|rM J J<|n_buildSliceL (xs := ([q5] : List Str).map AV.str) J J J J J J<|bndE h fun l10 e2 h=>t_append (g := AV.str) J J J J J J J J (.list _) e2 (fun _=>.p1) J fun b11=>rA J J<|rN<|ATodo.regionM (id := 6) (A := [0,1,0,0,12,31,63,127,255]) 9 mixed J (by kernel_rfl) (by kernel_rfl)<|AM.qv (n_field_ptr J J) J<|AM.qv (q_load_ptr J J .p0 J) J<|AM.qv (q_load_ptr_all J J .p0 J) J<|AM.qv (q_move J) J<|bndE h fun v12 e3 h=>AM.callp J (Q_tenantAt_c e3) (CoL.refl _) J<|bndE h fun v13 e4 h=>AM.qv (t_index J J J e4 J J) J<|AM.qv (n_field_rptr J J) J<|AM.qv (q_load_rptr J J J) J<|AM.qv (q_assign J) J<|AM.nil<|rN<|ATodo.blk<|ATodo.stop<|?_
        obtain rfl := Option.some.inj h
        exact hJ1 _ _ J<|ImpX.lq [0,0] ⟨b11,J⟩ J J
    · refine have h := iteF hc h; ATodo.exit J<|have h := outL h hA1; tSR<|rM J J<|rA J J<|rN<|ATodo.ret<|?_
      obtain rfl := Option.some.inj h
      exact ImpX.here ⟨_,.cons (.tmp _ _ J) .nil,_,.cons .p1 .nil,⟨b6,J,J⟩⟩

theorem Q_tenantsFault_c {p0x0 : Org} {r : Int} (h : Q_tenantsFault p0x0 = some r) : Pu Tryz.prog 67 [.agg [.list 2 (p0x0.Tenants.map Tenant.av),.list 2 (p0x0.Roles.map Role.av),.list 3 (p0x0.Members.map Member.av),.list 17 (p0x0.Shares.map Share.av)]] (I r) := by
  unfold Q_tenantsFault at h
  refine ACall.bodyN Tryz.func67 J Tryz.ntmps67 Tryz.results67 J J ?_
  refine tSR<|n_box J J J J fun b1=>rA J J<|rN<|tS<|tSR<|rF J J J<|rL J J .p0 J J<|ARun.qv (t_len J) J<|ARun.qv (q_gtr J J) J<|rN<|ATodo.cond_d J (fun hc=>?_) (fun hc=>?_)
  · refine have h := iteT hc h; tSR<|rA J J<|rN<|ATodo.ret<|?_
    obtain rfl := Option.some.inj h
    exact ImpX.here ⟨_,.cons (.tmp _ _ J) .nil,J⟩
  · refine have h := iteF hc h; tK<|tS<|tSR<|rF J J J<|rL J J .p0 J J<|ARun.qv (t_len J) J<|rM J J<|rN<|ATodo.block<|ATodo.loopI (fun x : Int=>Q_tenantsFault_b1 p0x0 x) (fun x σ'=>σ' = ⟨87,[(1,.ptr b1 0),(16,.list 2 (p0x0.Tenants.map Tenant.av)),(17,I (p0x0.Tenants.length : Int)),(18,I x)],[(b1,.cells [.list 2 (p0x0.Tenants.map Tenant.av),.list 2 (p0x0.Roles.map Role.av),.list 3 (p0x0.Members.map Member.av),.list 17 (p0x0.Shares.map Share.av)])]⟩) h ?_ ?_
    · exact ImpX.lq [0] J J J
    · intro n3 z1 σ' J1 hmk h hJ1 hA1
      obtain rfl := hmk
      replace h : Q_tenantsFault_b1 p0x0 n3 = some z1 := h
      unfold Q_tenantsFault_b1 at h
      refine tSR<|ARun.qv (q_lss J J) J<|rN<|tS<|ATodo.cond_d J (fun hc=>?_) (fun hc=>?_)
      · refine have h := iteT hc h; tK<|tS<|ATodo.block<|tSR<|rM J J<|bndE h fun v4 e1 h=>ARun.qv (t_index J J J e1 J J) J<|ARun.qv (q_load_rptr_agg J J J) J<|n_alloc J J J J fun b5=>rA J J<|n_store_ptr J J J J .p0 J J<|rN<|tS<|tSR<|rF J J J<|rL J J .p0 J J<|bndE h fun v6 e2 h=>r_callp J (Q_Key_c e2) (CoL.refl _) J<|ARun.qv (q_not J) J<|rN<|ATodo.cond J (fun hc=>?_) (fun hc=>?_)
        · refine have h := iteT hc h; tSR<|rA J J<|rN<|ATodo.ret<|have h := outL h hA1; ?_
          obtain rfl := Option.some.inj h
          exact ImpX.here ⟨_,.cons (.tmp _ _ J) .nil,J⟩
        · refine have h := iteFb hc h; tK<|tS<|ATodo.cut (fun σ'=>∃ (c7 : Bool),Q_tenantsFault_j1 n3 c7 = some z1 ∧ σ' = ⟨87,[(1,.ptr b1 0),(16,.list 2 (p0x0.Tenants.map Tenant.av)),(17,I (p0x0.Tenants.length : Int)),(18,I n3),(40,.bool c7)],[(b1,.cells [.list 2 (p0x0.Tenants.map Tenant.av),.list 2 (p0x0.Roles.map Role.av),.list 3 (p0x0.Members.map Member.av),.list 17 (p0x0.Shares.map Share.av)])]⟩) ?_ ?_
          · refine ATodo.regionM (id := 8) (A := [0,1,3,7,15,7,39,7,135,487,999,2023,4095,8191]) 14 mixed J (by kernel_rfl) (by kernel_rfl)<|AM.qv (q_move J) J<|AM.qv (q_gtr J J) J<|AM.qv (q_move J) J<|AM.guard_dt J J J (fun hc=>?_) (fun hc=>?_)
            · exact have h := iteT hc h; AM.qv (n_field_ptr J J) J<|AM.guard_yes J J J<|AM.qv (q_load_ptr J J .p0 J) J<|AM.guard_yes J J J<|AM.qv (n_field_ptr J J) J<|AM.guard_yes J J J<|AM.qv (q_load_ptr J J .p1 J) J<|AM.guard_yes J J J<|AM.qv (q_move J) J<|AM.guard_yes J J J<|AM.qv (q_subw J J) J<|AM.guard_yes J J J<|bndE h fun v8 e3 h=>AM.qv (t_index J J J e3 J J) J<|AM.guard_yes J J J<|AM.qv (n_field_rptr J J) J<|AM.guard_yes J J J<|AM.qv (q_load_rptr J J J) J<|AM.guard_yes J J J<|AM.qv (t_sleq J J) J<|AM.qv (q_pick_t J J) J<|AM.nil<|rN<|ATodo.stop<|ImpX.lq [1] ⟨Op.bytesLess v4.Key v8.Key || v4.Key == v8.Key,h,J⟩ J J
            · exact have h := iteF hc h; AM.guard_no J J J J<|AM.guard_no J J J J<|AM.guard_no J J J J<|AM.guard_no J J J J<|AM.guard_no J J J J<|AM.guard_no J J J J<|AM.guard_no J J J J<|AM.guard_no J J J J<|AM.guard_no J J J J<|AM.qv (q_pick_f J J) J<|AM.nil<|rN<|ATodo.stop<|ImpX.lq [1] ⟨false,h,J⟩ J J
          · rintro σ' ⟨c7, h, rfl⟩
            unfold Q_tenantsFault_j1 at h
            refine ATodo.cond J (fun hc=>?_) (fun hc=>?_)
            · refine have h := iteT hc h; tSR<|rA J J<|rN<|ATodo.ret<|have h := outL h hA1; ?_
              obtain rfl := Option.some.inj h
              exact ImpX.here ⟨_,.cons (.tmp _ _ J) .nil,J⟩
            · refine have h := iteFb hc h; tK<|ATodo.blk<|tR<|ARun.qv (q_addw J J) J<|rM J J<|rN<|ATodo.stop<|?_
              obtain rfl := Option.some.inj h
              exact hJ1 _ _ J<|ImpX.lq [0] J J J
      · refine have h := iteF hc h; ATodo.exit J<|have h := outL h hA1; tS<|tSR<|rF J J J<|rL J J .p0 J J<|ARun.qv (t_len J) J<|rM J J<|rN<|ATodo.block<|ATodo.loopI (fun x : Int=>Q_tenantsFault_b2 p0x0 x) (fun x σ'=>σ' = ⟨87,[(1,.ptr b1 0),(43,.list 2 (p0x0.Tenants.map Tenant.av)),(44,I (p0x0.Tenants.length : Int)),(45,I x)],[(b1,.cells [.list 2 (p0x0.Tenants.map Tenant.av),.list 2 (p0x0.Roles.map Role.av),.list 3 (p0x0.Members.map Member.av),.list 17 (p0x0.Shares.map Share.av)])]⟩) h ?_ ?_
        · exact ImpX.lq [0] J J J
        · intro n10 z2 σ' J2 hmk h hJ2 hA2
          obtain rfl := hmk
          replace h : Q_tenantsFault_b2 p0x0 n10 = some z2 := h
          unfold Q_tenantsFault_b2 at h
          refine tSR<|ARun.qv (q_lss J J) J<|rN<|tS<|ATodo.cond_d J (fun hc=>?_) (fun hc=>?_)
          · refine have h := iteT hc h; tK<|tS<|ATodo.block<|tSR<|bndE h fun v11 e4 h=>ARun.qv (t_index J J J e4 J J) J<|ARun.qv (q_load_rptr_agg J J J) J<|n_alloc J J J J fun b12=>n_store_ptr J J J J .p0 J J<|rN<|tS<|ATodo.cut (fun σ'=>∃ (c13 : Bool),Q_tenantsFault_j2 n10 c13 = some z2 ∧ σ' = ⟨87,[(1,.ptr b1 0),(43,.list 2 (p0x0.Tenants.map Tenant.av)),(44,I (p0x0.Tenants.length : Int)),(45,I n10),(58,.bool c13)],[(b1,.cells [.list 2 (p0x0.Tenants.map Tenant.av),.list 2 (p0x0.Roles.map Role.av),.list 3 (p0x0.Members.map Member.av),.list 17 (p0x0.Shares.map Share.av)])]⟩) ?_ ?_
            · refine tR<|rF J J J<|rL J J .p0 J J<|ARun.qv (q_sne J J) J<|rM J J<|ARun.guard_dt J J J (fun hc=>?_) (fun hc=>?_)
              · exact have h := iteT hc h; ARun.qv (q_load_ptr_all J J .p1 J) J<|rY J J J<|rF J J J<|rY J J J<|rL J J .p0 J J<|rY J J J<|bndE h fun v14 e5 h=>r_callp J (Q_tenantAt_c e5) (CoL.refl _) J<|rY J J J<|ARun.qv (q_lss J J) J<|rT J J J<|rN<|ATodo.stop<|ImpX.lq [1] ⟨decide (v14 < (0 : Int)),h,J⟩ J J
              · exact have h := iteF hc h; rG J J J J<|rG J J J J<|rG J J J J<|rG J J J J<|rE J J J<|rN<|ATodo.stop<|ImpX.lq [1] ⟨false,h,J⟩ J J
            · rintro σ' ⟨c13, h, rfl⟩
              unfold Q_tenantsFault_j2 at h
              refine ATodo.cond J (fun hc=>?_) (fun hc=>?_)
              · refine have h := iteT hc h; tSR<|rA J J<|rN<|ATodo.ret<|have h := outL h hA2; ?_
                obtain rfl := Option.some.inj h
                exact ImpX.here ⟨_,.cons (.tmp _ _ J) .nil,J⟩
              · refine have h := iteFb hc h; tK<|ATodo.blk<|tR<|ARun.qv (q_addw J J) J<|rM J J<|rN<|ATodo.stop<|?_
                obtain rfl := Option.some.inj h
                exact hJ2 _ _ J<|ImpX.lq [0] J J J
          · refine have h := iteF hc h; ATodo.exit J<|have h := outL h hA2; tS<|tSR<|rF J J J<|rL J J .p0 J J<|ARun.qv (t_len J) J<|rM J J<|rN<|ATodo.block<|ATodo.loopI (fun x : Int=>Q_tenantsFault_b3 p0x0 x) (fun x σ'=>σ' = ⟨87,[(1,.ptr b1 0),(61,.list 2 (p0x0.Tenants.map Tenant.av)),(62,I (p0x0.Tenants.length : Int)),(63,I x)],[(b1,.cells [.list 2 (p0x0.Tenants.map Tenant.av),.list 2 (p0x0.Roles.map Role.av),.list 3 (p0x0.Members.map Member.av),.list 17 (p0x0.Shares.map Share.av)])]⟩) h ?_ ?_
            · exact ImpX.lq [0] J J J
            · intro n16 z3 σ' J3 hmk h hJ3 hA3
              obtain rfl := hmk
              replace h : Q_tenantsFault_b3 p0x0 n16 = some z3 := h
              unfold Q_tenantsFault_b3 at h
              refine tSR<|ARun.qv (q_lss J J) J<|rN<|tS<|ATodo.cond_d J (fun hc=>?_) (fun hc=>?_)
              · refine have h := iteT hc h; tK<|tS<|ATodo.block<|tSR<|bndE h fun v17 e6 h=>ARun.qv (t_index J J J e6 J J) J<|ARun.qv (q_load_rptr_agg J J J) J<|n_alloc J J J J fun b18=>n_store_ptr J J J J .p0 J J<|rN<|tSR<|ARun.qv (q_load_ptr_all J J .p1 J) J<|rF J J J<|rL J J .p0 J J<|bndE h fun v19 e7 h=>optE h (fun e8 h=>?_) (fun x20 e8 h=>?_)
                · refine have cM61 := TM_none e8 (Q_pathOf_nil_c e7); t_call0 J cM61 (CoL.refl _) .nil J J<|ARun.qv (q_eqlN J J) J<|rN<|ATodo.cond_t J<|tSR<|rA J J<|rN<|ATodo.ret<|have h := outL h hA3; ?_
                  obtain rfl := Option.some.inj h
                  exact ImpX.here ⟨_,.cons (.tmp _ _ J) .nil,J⟩
                · refine have cM62 := TM_some e8 (Q_pathOf_nil_c e7); t_call1 J cM62 (CoL.refl _) .nil (fun _=>J) J fun b21=>bndE h fun v22 e9 h=>ARun.qv (q_eqlS (l := x20) J J e9) J<|rN<|ATodo.cond_f J<|tK<|ATodo.blk<|tR<|ARun.qv (q_addw J J) J<|rM J J<|rN<|ATodo.stop<|?_
                  obtain rfl := Option.some.inj h
                  exact hJ3 _ _ J<|ImpX.lq [2] J J J
              · refine have h := iteF hc h; ATodo.exit J<|have h := outL h hA3; tS<|tSR<|rF J J J<|rL J J .p0 J J<|ARun.qv (t_len J) J<|rM J J<|rN<|ATodo.block<|ATodo.loopI (fun x : Int=>Q_tenantsFault_b4 p0x0 x) (fun x σ'=>σ' = ⟨87,[(1,.ptr b1 0),(74,.list 2 (p0x0.Tenants.map Tenant.av)),(75,I (p0x0.Tenants.length : Int)),(76,I x)],[(b1,.cells [.list 2 (p0x0.Tenants.map Tenant.av),.list 2 (p0x0.Roles.map Role.av),.list 3 (p0x0.Members.map Member.av),.list 17 (p0x0.Shares.map Share.av)])]⟩) h ?_ ?_
                · exact ImpX.lq [0] J J J
                · intro n24 z4 σ' J4 hmk h hJ4 hA4
                  obtain rfl := hmk
                  replace h : Q_tenantsFault_b4 p0x0 n24 = some z4 := h
                  unfold Q_tenantsFault_b4 at h
                  refine tSR<|ARun.qv (q_lss J J) J<|rN<|tS<|ATodo.cond_d J (fun hc=>?_) (fun hc=>?_)
                  · refine have h := iteT hc h; tK<|tS<|ATodo.block<|tSR<|bndE h fun v25 e10 h=>ARun.qv (t_index J J J e10 J J) J<|ARun.qv (q_load_rptr_agg J J J) J<|n_alloc J J J J fun b26=>n_store_ptr J J J J .p0 J J<|rN<|tSR<|ARun.qv (q_load_ptr_all J J .p1 J) J<|rF J J J<|rL J J .p0 J J<|bndE h fun v27 e11 h=>r_callp J (Q_pathOf_c e11) (CoL.refl _) J<|ARun.qv (t_len J) J<|ARun.qv (q_gtr J J) J<|rN<|ATodo.cond_d J (fun hc=>?_) (fun hc=>?_)
                    · refine have h := iteT hc h; tSR<|rA J J<|rN<|ATodo.ret<|have h := outL h hA4; ?_
                      obtain rfl := Option.some.inj h
                      exact ImpX.here ⟨_,.cons (.tmp _ _ J) .nil,J⟩
                    · refine have h := iteF hc h; tK<|ATodo.blk<|tR<|ARun.qv (q_addw J J) J<|rM J J<|rN<|ATodo.stop<|?_
                      obtain rfl := Option.some.inj h
                      exact hJ4 _ _ J<|ImpX.lq [1] J J J
                  · refine have h := iteF hc h; ATodo.exit J<|have h := outL h hA4; tSR<|rA J J<|rN<|ATodo.ret<|?_
                    obtain rfl := Option.some.inj h
                    exact ImpX.here ⟨_,.cons (.tmp _ _ J) .nil,J⟩

theorem Q_actsFault_c {p0x0 : List Str} {p1x0 : Bool} {r : Int} (h : Q_actsFault p0x0 p1x0 = some r) : Pu Tryz.prog 150 [.list 1 (p0x0.map AV.str),.bool p1x0] (I r) := by
  unfold Q_actsFault at h
  refine ACall.bodyN Tryz.func150 J Tryz.ntmps150 Tryz.results150 J J ?_
  refine tSR<|rA J J<|rN<|tS<|tSR<|rM J J<|ARun.qv (t_len J) J<|rM J J<|rN<|ATodo.block<|ATodo.loopI (fun x : Int=>Q_actsFault_b1 p0x0 p1x0 x) (fun x σ'=>σ' = ⟨30,[(0,.list 1 (p0x0.map AV.str)),(1,.bool p1x0),(7,.list 1 (p0x0.map AV.str)),(8,I (p0x0.length : Int)),(9,I x)],[]⟩) h ?_ ?_
  · exact ImpX.lq [] J J J
  · intro n2 z1 σ' J1 hmk h hJ1 hA1
    obtain rfl := hmk
    replace h : Q_actsFault_b1 p0x0 p1x0 n2 = some z1 := h
    unfold Q_actsFault_b1 at h
    refine tSR<|ARun.qv (q_lss J J) J<|rN<|tS<|ATodo.cond_d J (fun hc=>?_) (fun hc=>?_)
    · refine have h := iteT hc h; tK<|tS<|ATodo.block<|tSR<|rM J J<|bndE h fun v3 e1 h=>ARun.qv (t_index J J J e1 J J) J<|ARun.qv (q_load_rptr J J J) J<|rA J J<|rA J J<|rN<|tS<|tSR<|rM J J<|rM J J<|bndE h fun v4 e2 h=>r_callp J (Q_ActRight_c e2) (CoL.refl _) J<|ARun.qv (q_not J) J<|rN<|ATodo.cond J (fun hc=>?_) (fun hc=>?_)
      · refine have h := iteT hc h; tSR<|rA J J<|rN<|ATodo.ret<|have h := outL h hA1; ?_
        obtain rfl := Option.some.inj h
        exact ImpX.here ⟨_,.cons (.tmp _ _ J) .nil,J⟩
      · refine have h := iteFb hc h; tK<|tS<|ATodo.cut (fun σ'=>∃ (c5 : Bool),Q_actsFault_j1 n2 c5 = some z1 ∧ σ' = ⟨30,[(0,.list 1 (p0x0.map AV.str)),(1,.bool p1x0),(7,.list 1 (p0x0.map AV.str)),(8,I (p0x0.length : Int)),(9,I n2),(28,.bool c5)],[]⟩) ?_ ?_
        · refine tR<|rM J J<|ARun.qv (q_gtr J J) J<|rM J J<|ARun.guard_dt J J J (fun hc=>?_) (fun hc=>?_)
          · exact have h := iteT hc h; rM J J<|rY J J J<|rM J J<|rY J J J<|rM J J<|rY J J J<|ARun.qv (q_subw J J) J<|rY J J J<|bndE h fun v6 e3 h=>ARun.qv (t_index J J J e3 J J) J<|rY J J J<|ARun.qv (q_load_rptr J J J) J<|rY J J J<|ARun.qv (t_sleq J J) J<|rT J J J<|rN<|ATodo.stop<|ImpX.lq [] ⟨Op.bytesLess v3 v6 || v3 == v6,h,J⟩ J J
          · exact have h := iteF hc h; rG J J J J<|rG J J J J<|rG J J J J<|rG J J J J<|rG J J J J<|rG J J J J<|rE J J J<|rN<|ATodo.stop<|ImpX.lq [] ⟨false,h,J⟩ J J
        · rintro σ' ⟨c5, h, rfl⟩
          unfold Q_actsFault_j1 at h
          refine ATodo.cond J (fun hc=>?_) (fun hc=>?_)
          · refine have h := iteT hc h; tSR<|rA J J<|rN<|ATodo.ret<|have h := outL h hA1; ?_
            obtain rfl := Option.some.inj h
            exact ImpX.here ⟨_,.cons (.tmp _ _ J) .nil,J⟩
          · refine have h := iteFb hc h; tK<|ATodo.blk<|tR<|ARun.qv (q_addw J J) J<|rM J J<|rN<|ATodo.stop<|?_
            obtain rfl := Option.some.inj h
            exact hJ1 _ _ J<|ImpX.lq [] J J J
    · refine have h := iteF hc h; ATodo.exit J<|have h := outL h hA1; tSR<|rA J J<|rN<|ATodo.ret<|?_
      obtain rfl := Option.some.inj h
      exact ImpX.here ⟨_,.cons (.tmp _ _ J) .nil,J⟩

theorem Q_someActs_c {p0x0 : List Str} {r : Int} (h : Q_someActs p0x0 = some r) : Pu Tryz.prog 73 [.list 1 (p0x0.map AV.str)] (I r) := by
  unfold Q_someActs at h
  refine ACall.bodyN Tryz.func73 J Tryz.ntmps73 Tryz.results73 J J ?_
  refine tSR<|rA J J<|rN<|tS<|ATodo.block<|tSR<|rM J J<|ARun.qv (t_len J) J<|ARun.qv (q_eql J J) J<|rA J J<|rN<|ATodo.cond_d J (fun hc=>?_) (fun hc=>?_)
  · refine have h := iteT hc h; tSR<|rA J J<|rN<|ATodo.ret<|?_
    obtain rfl := Option.some.inj h
    exact ImpX.here ⟨_,.cons (.tmp _ _ J) .nil,J⟩
  · refine have h := iteF hc h; tSR<|rM J J<|ARun.qv (t_len J) J<|ARun.qv (q_gtr J J) J<|rA J J<|rN<|ATodo.cond_d J (fun hc=>?_) (fun hc=>?_)
    · refine have h := iteT hc h; tSR<|rA J J<|rN<|ATodo.ret<|?_
      obtain rfl := Option.some.inj h
      exact ImpX.here ⟨_,.cons (.tmp _ _ J) .nil,J⟩
    · refine have h := iteF hc h; tK<|ATodo.blk<|tSR<|rM J J<|bndE h fun v1 e1 h=>r_callp J (Q_actsFault_c e1) (CoL.refl _) J<|rA J J<|rN<|ATodo.ret<|?_
      obtain rfl := Option.some.inj h
      exact ImpX.here ⟨_,.cons (.tmp _ _ J) .nil,J⟩

theorem Q_roleAt_1x_c [GI : GTab] {p0x0 : Role} {p1x0 : Str} {r : Bool} (h : Q_roleAt_1x p0x0 p1x0 = r) : Pu Tryz.prog 157 [.agg [.str p0x0.Key,.list 1 (p0x0.Acts.map AV.str)],.rptr [.str p1x0]] (.bool r) := by
  unfold Q_roleAt_1x at h
  refine ACall.bodyN Tryz.func157 J Tryz.ntmps157 Tryz.results157 J J ?_
  refine tSR<|n_box J J J J fun b1=>rA J J<|rN<|tSR<|rF J J J<|rL J J .p0 J J<|ARun.qv (q_load_rptr J J J) J<|ARun.qv (q_seq J J) J<|rA J J<|rN<|ATodo.ret<|?_
  obtain rfl := h
  exact ImpX.here ⟨_,.cons (.tmp _ _ J) .nil,J⟩

theorem slices_IndexFunc_Role_Role_c [GI : GTab] {p0x0 : List Role} {fnb : Role → Option Bool} {fnb_F : FuncId} [IsFn Tryz.prog fnb_F] {fnb_C : List AV} (fnb_h : ∀ {y0 : _} {u : Bool},fnb y0 = some u → Pu Tryz.prog fnb_F (.agg [.str y0.Key,.list 1 (y0.Acts.map AV.str)] ::  fnb_C) (.bool u)) {r : Int} (h : slices_IndexFunc_Role_Role p0x0 fnb = some r) : Pu Tryz.prog 156 [.list 2 (p0x0.map Role.av),.func (.func fnb_F) fnb_C] (I r) := by
  unfold slices_IndexFunc_Role_Role at h
  refine ACall.bodyN Tryz.func156 J Tryz.ntmps156 Tryz.results156 J J ?_
  refine tSR<|rA J J<|rN<|tS<|tSR<|rM J J<|ARun.qv (t_len J) J<|rM J J<|rN<|ATodo.block<|ATodo.loopI (fun x : Int=>slices_IndexFunc_Role_Role_b1 p0x0 fnb x) (fun x σ'=>σ' = ⟨19,[(0,.list 2 (p0x0.map Role.av)),(1,.func (.func fnb_F) fnb_C),(7,I (p0x0.length : Int)),(8,I x)],[]⟩) h ?_ ?_
  · exact ImpX.lq [] J J J
  · intro n2 z1 σ' J1 hmk h hJ1 hA1
    obtain rfl := hmk
    replace h : slices_IndexFunc_Role_Role_b1 p0x0 fnb n2 = some z1 := h
    unfold slices_IndexFunc_Role_Role_b1 at h
    refine tSR<|ARun.qv (q_lss J J) J<|rN<|tS<|ATodo.cond_d J (fun hc=>?_) (fun hc=>?_)
    · refine have h := iteT hc h; tK<|tS<|ATodo.block<|tSR<|rM J J<|rA J J<|rN<|tSR<|rM J J<|rM J J<|rM J J<|bndE h fun v3 e1 h=>ARun.qv (t_index J J J e1 J J) J<|ARun.qv (q_load_rptr_agg J J J) J<|bndE h fun v4 e2 h=>r_callvp J J (fnb_h e2) (CoL.refl _) J<|rN<|ATodo.cond J (fun hc=>?_) (fun hc=>?_)
      · refine have h := iteT hc h; tSR<|rM J J<|rA J J<|rN<|ATodo.ret<|have h := outL h hA1; ?_
        obtain rfl := Option.some.inj h
        exact ImpX.here ⟨_,.cons (.tmp _ _ J) .nil,J⟩
      · refine have h := iteFb hc h; tK<|ATodo.blk<|tR<|ARun.qv (q_addw J J) J<|rM J J<|rN<|ATodo.stop<|?_
        obtain rfl := Option.some.inj h
        exact hJ1 _ _ J<|ImpX.lq [] J J J
    · refine have h := iteF hc h; ATodo.exit J<|have h := outL h hA1; tSR<|rA J J<|rN<|ATodo.ret<|?_
      obtain rfl := Option.some.inj h
      exact ImpX.here ⟨_,.cons (.tmp _ _ J) .nil,J⟩

theorem Q_roleAt_c [GI : GTab] {p0x0 : Org} {p1x0 : Str} {r : Int} (h : Q_roleAt p0x0 p1x0 = some r) : Pu Tryz.prog 80 [.agg [.list 2 (p0x0.Tenants.map Tenant.av),.list 2 (p0x0.Roles.map Role.av),.list 3 (p0x0.Members.map Member.av),.list 17 (p0x0.Shares.map Share.av)],.str p1x0] (I r) := by
  unfold Q_roleAt at h
  refine ACall.bodyN Tryz.func80 J Tryz.ntmps80 Tryz.results80 J J ?_
  refine tSR<|n_box J J J J fun b1=>n_box J J J J fun b2=>rA J J<|rN<|tSR<|rF J J J<|rL J J .p1 J J<|ARun.qv (q_makeFunc J) J<|bndE h fun v3 e1 h=>r_callpB J (slices_IndexFunc_Role_Role_c (fun e=>Q_roleAt_1x_c (Option.some.inj e)) e1) (.cons (.co (.refl _)) (.cons (.funcL _ _ _ (.cons (.boxL _ _ _ .p0 (.cons (.co (.refl _)) .nil)) .nil)) .nil)) J J<|rA J J<|rN<|ATodo.ret<|?_
  obtain rfl := Option.some.inj h
  exact ImpX.here ⟨_,.cons (.tmp _ _ J) .nil,J⟩

theorem cmp_Or_int_c [GI : GTab] {p0x0 : List Int} {r : Int} (h : cmp_Or_int p0x0 = some r) : Pu Tryz.prog 86 [.list 1 (p0x0.map I)] (I r) := by
  unfold cmp_Or_int at h
  refine ACall.bodyN Tryz.func86 J Tryz.ntmps86 Tryz.results86 J J ?_
  refine tSR<|rA J J<|rN<|tSR<|rA J J<|rN<|tS<|tSR<|rM J J<|ARun.qv (t_len J) J<|rM J J<|rN<|ATodo.block<|ATodo.loopI (fun x : Int=>cmp_Or_int_b1 p0x0 x) (fun x σ'=>σ' = ⟨18,[(3,I (0 : Int)),(6,.list 1 (p0x0.map I)),(7,I (p0x0.length : Int)),(8,I x)],[]⟩) h ?_ ?_
  · exact ImpX.lq [] J J J
  · intro n2 z1 σ' J1 hmk h hJ1 hA1
    obtain rfl := hmk
    replace h : cmp_Or_int_b1 p0x0 n2 = some z1 := h
    unfold cmp_Or_int_b1 at h
    refine tSR<|ARun.qv (q_lss J J) J<|rN<|tS<|ATodo.cond_d J (fun hc=>?_) (fun hc=>?_)
    · refine have h := iteT hc h; tK<|tS<|ATodo.block<|tSR<|bndE h fun v3 e1 h=>ARun.qv (t_index J J J e1 J J) J<|ARun.qv (q_load_rptr J J J) J<|rA J J<|rN<|tSR<|rM J J<|rM J J<|ARun.qv (q_neq J J) J<|rN<|ATodo.cond_d J (fun hc=>?_) (fun hc=>?_)
      · refine have h := iteT hc h; tSR<|rM J J<|rA J J<|rN<|ATodo.ret<|have h := outL h hA1; ?_
        obtain rfl := Option.some.inj h
        exact ImpX.here ⟨_,.cons (.tmp _ _ J) .nil,J⟩
      · refine have h := iteF hc h; tK<|ATodo.blk<|tR<|ARun.qv (q_addw J J) J<|rM J J<|rN<|ATodo.stop<|?_
        obtain rfl := Option.some.inj h
        exact hJ1 _ _ J<|ImpX.lq [] J J J
    · refine have h := iteF hc h; ATodo.exit J<|have h := outL h hA1; tSR<|rM J J<|rA J J<|rN<|ATodo.ret<|?_
      obtain rfl := Option.some.inj h
      exact ImpX.here ⟨_,.cons (.tmp _ _ J) .nil,J⟩

end Go.Proofs.YtohnopfmfehhkaaGreatDoor

