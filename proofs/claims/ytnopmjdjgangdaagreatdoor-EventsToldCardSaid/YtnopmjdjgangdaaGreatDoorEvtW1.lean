/- The code computes the plain functions: proofs written by shal.py. -/
import Derived.Test.YtnopmjdjgangdaaGreatDoorEvtP
import Derived.Test.YtnopmjdjgangdaaGreatDoorLib
set_option maxHeartbeats 4000000
set_option maxRecDepth 100000
set_option linter.unusedVariables false
set_option linter.unusedSimpArgs false
namespace Go.Proofs.YtnopmjdjgangdaaGreatDoor
open Go Go.Eng Go.Proofs Go.Beacon
attribute [local irreducible] ARun ATodo AQ QV ACall ImpX AWp AM
instance eqg38 : EqGd Tryz.prog 38 := ⟨by kernel_rfl⟩
instance eqt38 : EqTy Tryz.prog 38 2 Version.av := ⟨fun x y w S v u hv hu=>by
  obtain ⟨vs, rfl, hl, ha⟩ := At.agg_inv hv
  obtain ⟨us, rfl, hl', ha'⟩ := At.agg_inv hu
  obtain ⟨v0, p0, q0⟩ := AtA.get hl ha (off := 0) rfl
  obtain ⟨u0, p0', q0'⟩ := AtA.get hl' ha' (off := 0) rfl
  obtain ⟨v1, p1, q1⟩ := AtA.get hl ha (off := 1) rfl
  obtain ⟨u1, p1', q1'⟩ := AtA.get hl' ha' (off := 1) rfl
  obtain ⟨v2, p2, q2⟩ := AtA.get hl ha (off := 2) rfl
  obtain ⟨u2, p2', q2'⟩ := AtA.get hl' ha' (off := 2) rfl
  refine EqR.cast (EqR.struct Tryz.underlying38 (by kernel_rfl) (.cons (by decide) (part_one J p0) (part_one J p0') (EqR.up (EqTy.h (g := I) x.Major y.Major w S _ _ q0 q0') 0)  (.cons (by decide) (part_one J p1) (part_one J p1') (EqR.up (EqTy.h (g := I) x.Minor y.Minor w S _ _ q1 q1') 0)  (.cons (by decide) (part_one J p2) (part_one J p2') (EqR.up (EqTy.h (g := I) x.Patch y.Patch w S _ _ q2 q2') 0) .nil)))) ?_
  obtain ⟨_, _, _⟩ := x
  obtain ⟨_, _, _⟩ := y
  rw [Bool.eq_iff_iff]; simp [and_assoc]⟩
instance eqg66 : EqGd Tryz.prog 66 := ⟨by kernel_rfl⟩
instance eqt66 : EqTy Tryz.prog 66 3 EventS.av := ⟨fun x y w S v u hv hu=>by
  obtain ⟨vs, rfl, hl, ha⟩ := At.agg_inv hv
  obtain ⟨us, rfl, hl', ha'⟩ := At.agg_inv hu
  obtain ⟨v0, p0, q0⟩ := AtA.get hl ha (off := 0) rfl
  obtain ⟨u0, p0', q0'⟩ := AtA.get hl' ha' (off := 0) rfl
  obtain ⟨v1, p1, q1⟩ := AtA.get hl ha (off := 1) rfl
  obtain ⟨u1, p1', q1'⟩ := AtA.get hl' ha' (off := 1) rfl
  obtain ⟨v2, p2, q2⟩ := AtA.get hl ha (off := 2) rfl
  obtain ⟨u2, p2', q2'⟩ := AtA.get hl' ha' (off := 2) rfl
  obtain ⟨v3, p3, q3⟩ := AtA.get hl ha (off := 3) rfl
  obtain ⟨u3, p3', q3'⟩ := AtA.get hl' ha' (off := 3) rfl
  obtain ⟨v4, p4, q4⟩ := AtA.get hl ha (off := 4) rfl
  obtain ⟨u4, p4', q4'⟩ := AtA.get hl' ha' (off := 4) rfl
  obtain ⟨v5, p5, q5⟩ := AtA.get hl ha (off := 5) rfl
  obtain ⟨u5, p5', q5'⟩ := AtA.get hl' ha' (off := 5) rfl
  obtain ⟨v6, p6, q6⟩ := AtA.get hl ha (off := 6) rfl
  obtain ⟨u6, p6', q6'⟩ := AtA.get hl' ha' (off := 6) rfl
  obtain ⟨v7, p7, q7⟩ := AtA.get hl ha (off := 7) rfl
  obtain ⟨u7, p7', q7'⟩ := AtA.get hl' ha' (off := 7) rfl
  obtain ⟨v8, p8, q8⟩ := AtA.get hl ha (off := 8) rfl
  obtain ⟨u8, p8', q8'⟩ := AtA.get hl' ha' (off := 8) rfl
  obtain ⟨v9, p9, q9⟩ := AtA.get hl ha (off := 9) rfl
  obtain ⟨u9, p9', q9'⟩ := AtA.get hl' ha' (off := 9) rfl
  obtain ⟨v10, p10, q10⟩ := AtA.get hl ha (off := 10) rfl
  obtain ⟨u10, p10', q10'⟩ := AtA.get hl' ha' (off := 10) rfl
  obtain ⟨v11, p11, q11⟩ := AtA.get hl ha (off := 11) rfl
  obtain ⟨u11, p11', q11'⟩ := AtA.get hl' ha' (off := 11) rfl
  obtain ⟨v12, p12, q12⟩ := AtA.get hl ha (off := 12) rfl
  obtain ⟨u12, p12', q12'⟩ := AtA.get hl' ha' (off := 12) rfl
  refine EqR.cast (EqR.struct Tryz.underlying66 (by kernel_rfl) (.cons (by decide) (part_one J p0) (part_one J p0') (EqR.up (EqTy.h (g := AV.str) x.Hub y.Hub w S _ _ q0 q0') 1)  (.cons (by decide) (part_one J p1) (part_one J p1') (EqR.up (EqTy.h (g := I) x.No y.No w S _ _ q1 q1') 1)  (.cons (by decide) (part_one J p2) (part_one J p2') (EqR.up (EqTy.h (g := I) x.Clock y.Clock w S _ _ q2 q2') 1)  (.cons (by decide) (part_one J p3) (part_one J p3') (EqR.up (EqTy.h (g := I) x.At y.At w S _ _ q3 q3') 1)  (.cons (by decide) (part_one J p4) (part_one J p4') (EqR.up (EqTy.h (g := I) x.Kind y.Kind w S _ _ q4 q4') 1)  (.cons (by decide) (part_one J p5) (part_one J p5') (EqR.up (EqTy.h (g := AV.str) x.Device y.Device w S _ _ q5 q5') 1)  (.cons (by decide) (part_one J p6) (part_one J p6') (EqR.up (EqTy.h (g := AV.str) x.Model y.Model w S _ _ q6 q6') 1)  (.cons (by decide) (part_one J p7) (part_one J p7') (EqR.up (EqTy.h (g := AV.str) x.Tenant y.Tenant w S _ _ q7 q7') 1)  (.cons (by decide) (part_one J p8) (part_one J p8') (EqR.up (EqTy.h (g := I) x.Serial y.Serial w S _ _ q8 q8') 1)  (.cons (by decide) (part_one J p9) (part_one J p9') (EqR.up (EqTy.h (g := AV.str) x.Key y.Key w S _ _ q9 q9') 1)  (.cons (by decide) (part_one J p10) (part_one J p10') (EqR.up (EqTy.h (g := AV.str) x.Name y.Name w S _ _ q10 q10') 1)  (.cons (by decide) (part_one J p11) (part_one J p11') (EqR.up (EqTy.h (g := AV.str) x.Value y.Value w S _ _ q11 q11') 1)  (.cons (by decide) (part_one J p12) (part_one J p12') (EqR.up (EqTy.h (g := I) x.Until y.Until w S _ _ q12 q12') 1)  (.cons (by decide) (part_agg J J) (part_agg J J) (EqR.up (EqTy.h (g := Version.av) x.Firmware y.Firmware w S _ _ (AtA.sub hl ha 13 3 (Nat.le_of_ble_eq_true J)) (AtA.sub hl' ha' 13 3 (Nat.le_of_ble_eq_true J))) 0) .nil))))))))))))))) ?_
  obtain ⟨_, _, _, _, _, _, _, _, _, _, _, _, _, _⟩ := x
  obtain ⟨_, _, _, _, _, _, _, _, _, _, _, _, _, _⟩ := y
  rw [Bool.eq_iff_iff]; simp [and_assoc]⟩
instance eqg78 : EqGd Tryz.prog 78 := ⟨by kernel_rfl⟩
instance eqt78 : EqTy Tryz.prog 78 2 Seen.av := ⟨fun x y w S v u hv hu=>by
  obtain ⟨vs, rfl, hl, ha⟩ := At.agg_inv hv
  obtain ⟨us, rfl, hl', ha'⟩ := At.agg_inv hu
  obtain ⟨v0, p0, q0⟩ := AtA.get hl ha (off := 0) rfl
  obtain ⟨u0, p0', q0'⟩ := AtA.get hl' ha' (off := 0) rfl
  obtain ⟨v1, p1, q1⟩ := AtA.get hl ha (off := 1) rfl
  obtain ⟨u1, p1', q1'⟩ := AtA.get hl' ha' (off := 1) rfl
  refine EqR.cast (EqR.struct Tryz.underlying78 (by kernel_rfl) (.cons (by decide) (part_one J p0) (part_one J p0') (EqR.up (EqTy.h (g := AV.str) x.Hub y.Hub w S _ _ q0 q0') 0)  (.cons (by decide) (part_one J p1) (part_one J p1') (EqR.up (EqTy.h (g := I) x.No y.No w S _ _ q1 q1') 0) .nil))) ?_
  obtain ⟨_, _⟩ := x
  obtain ⟨_, _⟩ := y
  rw [Bool.eq_iff_iff]; simp [and_assoc]⟩
instance eqg143 : EqGd Tryz.prog 143 := ⟨by kernel_rfl⟩
instance eqt143 : EqTy Tryz.prog 143 2 Device_place.av := ⟨fun x y w S v u hv hu=>by
  obtain ⟨vs, rfl, hl, ha⟩ := At.agg_inv hv
  obtain ⟨us, rfl, hl', ha'⟩ := At.agg_inv hu
  obtain ⟨v0, p0, q0⟩ := AtA.get hl ha (off := 0) rfl
  obtain ⟨u0, p0', q0'⟩ := AtA.get hl' ha' (off := 0) rfl
  obtain ⟨v1, p1, q1⟩ := AtA.get hl ha (off := 1) rfl
  obtain ⟨u1, p1', q1'⟩ := AtA.get hl' ha' (off := 1) rfl
  refine EqR.cast (EqR.struct Tryz.underlying143 (by kernel_rfl) (.cons (by decide) (part_one J p0) (part_one J p0') (EqR.up (EqTy.h (g := AV.str) x.hub_ y.hub_ w S _ _ q0 q0') 0)  (.cons (by decide) (part_one J p1) (part_one J p1') (EqR.up (EqTy.h (g := I) x.no_ y.no_ w S _ _ q1 q1') 0) .nil))) ?_
  obtain ⟨_, _⟩ := x
  obtain ⟨_, _⟩ := y
  rw [Bool.eq_iff_iff]; simp [and_assoc]⟩
instance mky143 : MKey Tryz.prog 143 Device_place.av := MKey.struct (n := 2) J Tryz.underlying143 (fun f hf=>by
  simp only [List.mem_cons,List.not_mem_nil,or_false] at hf
  rcases hf with rfl | rfl
  · exact ⟨_,TUnder.h (P := Tryz.prog) (t := 9),J,by decide⟩
  · exact ⟨_,TUnder.h (P := Tryz.prog) (t := 3),J,by decide⟩) (fun x=>⟨_,J,J,fun c hc=>by
  simp only [List.mem_cons,List.not_mem_nil,or_false] at hc
  rcases hc with rfl | rfl <;> rfl⟩) (fun a b h => by
  obtain ⟨_, _⟩ := a
  obtain ⟨_, _⟩ := b
  simpa [Device_place.av] using h)
abbrev lE0 (xs : List Int) : AV := .list 1 (xs.map I)
abbrev lE1 (xs : List Str) : AV := .list 1 (xs.map AV.str)
abbrev aE2 (xs : List PropType) : Ob := .arr 4 (xs.map PropType.av)
abbrev aE3 (xs : List Model) : Ob := .arr 3 (xs.map Model.av)
abbrev lE3 (xs : List Model) : AV := .list 3 (xs.map Model.av)
abbrev aE4 (xs : List EventS) : Ob := .arr 16 (xs.map EventS.av)
abbrev mE5 (xs : List (Str × Int)) : Ob := .mp (xs.map (fun e=>(AV.str e.1,I e.2)))
abbrev lE4 (xs : List EventS) : AV := .list 16 (xs.map EventS.av)
abbrev aE6 (xs : List Seen) : Ob := .arr 2 (xs.map Seen.av)
abbrev lE2 (xs : List PropType) : AV := .list 4 (xs.map PropType.av)
abbrev cE0 (x : PropType) : List AV := [.str x.Name,I x.Kind,I x.Low,I x.High]
abbrev lE7 (xs : List Int) : AV := .list 1 (xs.map (AV.int .u8))
abbrev mE8 (xs : List (Str × Bool)) : Ob := .mp (xs.map (fun e=>(AV.str e.1,AV.bool e.2)))
abbrev eE8 := (fun (e : Str × Bool)=>(AV.str e.1,AV.bool e.2))
abbrev cE1 (x : EventS) : List AV := [.str x.Hub,I x.No,I x.Clock,I x.At,I x.Kind,.str x.Device,.str x.Model,.str x.Tenant,I x.Serial,.str x.Key,.str x.Name,.str x.Value,I x.Until,I x.Firmware.Major,I x.Firmware.Minor,I x.Firmware.Patch]
abbrev lE9 (xs : List (List EventS)) : AV := .list 1 (xs.map (encL 16 EventS.av))
abbrev mE10 (xs : List (Device_place × EventS)) : Ob := .mp (xs.map (fun e=>(Device_place.av e.1,EventS.av e.2)))
abbrev eE5 := (fun (e : Str × Int)=>(AV.str e.1,I e.2))
abbrev lE6 (xs : List Seen) : AV := .list 2 (xs.map Seen.av)
abbrev aE1 (xs : List Str) : Ob := .arr 1 (xs.map AV.str)
abbrev fE4 (xs : List EventS) : Ob := .fro 16 (xs.map EventS.av)
theorem Below_c [GI : GTab] {p0x0 : Int} {p1x0 : Int} {r : Int} (h : Below p0x0 p1x0 = some r) : Pu Tryz.prog 86 [I p0x0,I p1x0] (I r) := by
  unfold Below at h
  refine ACall.bodyN Tryz.func86 J Tryz.ntmps86 Tryz.results86 J J ?_
  refine tSR<|rA J J<|rN<|tS<|tSR<|rM J J<|ARun.qv (q_lss J J) J<|rN<|ATodo.cond_d J (fun hc=>?_) (fun hc=>?_)
  · refine have h := iteT hc h; tSR<|rA J J<|rN<|ATodo.ret<|?_
    obtain rfl := Option.some.inj h
    exact ImpX.here ⟨_,.cons (.tmp _ _ J) .nil,J⟩
  · refine have h := iteF hc h; tK<|tSR<|rM J J<|rM J J<|bndE h fun n1 e1 h=>ARun.qv (t_remS J J e1) J<|rA J J<|rN<|tS<|tSR<|rM J J<|ARun.qv (q_lss J J) J<|rN<|ATodo.cut (fun σ'=>∃ (n2 : Int),Below_j1 n2 = some r ∧ σ' = ⟨16,[(0,I n2)],[]⟩) ?_ ?_
    · refine ATodo.cond_d J (fun hc=>?_) (fun hc=>?_)
      · exact have h := iteT hc h; tR<|rM J J<|rM J J<|ARun.qv (q_addw J J) J<|rA J J<|rN<|ATodo.stop<|ImpX.lq [] ⟨w64 (n1 + p1x0),h,J⟩ J J
      · exact have h := iteF hc h; tK<|ATodo.stop<|ImpX.lq [] ⟨n1,h,J⟩ J J
    · rintro σ' ⟨n2, h, rfl⟩
      unfold Below_j1 at h
      refine tSR<|rM J J<|rA J J<|rN<|ATodo.ret<|?_
      obtain rfl := Option.some.inj h
      exact ImpX.here ⟨_,.cons (.tmp _ _ J) .nil,J⟩

theorem Stream_Next_c [GI : GTab] {b_0 : Bk} {p0x0 : Fleetmake_Stream} {p1x0 : Int} {r : Int × Fleetmake_Stream} (h : Stream_Next p0x0 p1x0 = some r) : ACall Tryz.prog 31 [.ptr b_0 0,I p1x0] [(b_0,.cells [lE0 p0x0.L,I p0x0.at_])] (T0 ([(b_0,.cells [lE0 r.2.L,I r.2.at_])]) (I r.1)) := by
  unfold Stream_Next at h
  refine ACall.lessH ?_
  refine ACall.bodyN Tryz.func31 J Tryz.ntmps31 Tryz.results31 J J ?_
  refine tSR<|rA J J<|rN<|tSR<|rM J J<|ARun.qv (q_nilCheck_ptr J) J<|rF J J J<|rL J J .p0 J J<|ARun.qv (q_addw J J) J<|ARun.qv (q_nilCheck_ptr J) J<|rF J J J<|n_store_ptr J J J J .p0 J J<|rN<|tS<|tSR<|rM J J<|ARun.qv (q_nilCheck_ptr J) J<|rF J J J<|rL J J .p0 J J<|ARun.qv (t_len J) J<|ARun.qv (q_eql J J) J<|rN<|ATodo.cond_d J (fun hc=>?_) (fun hc=>?_)
  · refine have h := iteT hc h; tSR<|rM J J<|ARun.qv (q_nilCheck_ptr J) J<|rF J J J<|rL J J .p0 J J<|ARun.qv (q_mulw J J) J<|rM J J<|bndE h fun v1 e1 h=>r_callp J (Below_c e1) (CoL.refl _) J<|rA J J<|rN<|ATodo.ret<|?_
    obtain rfl := Option.some.inj h
    exact ImpX.here ⟨_,.cons (.tmp _ _ J) .nil,_,.cons .p0 .nil,⟨J,J⟩⟩
  · refine have h := iteF hc h; tK<|tS<|ATodo.regionM (id := 4) (A := [0,1,3,7,15,0,32,96,224,480,1023,2047]) 12 mixed J (by kernel_rfl) (by kernel_rfl)<|AM.qv (q_move J) J<|AM.qv (q_nilCheck_ptr J) J<|AM.qv (n_field_ptr J J) J<|AM.qv (q_load_ptr J J .p0 J) J<|AM.qv (q_subw J J) J<|AM.qv (q_move J) J<|AM.qv (q_nilCheck_ptr J) J<|AM.qv (n_field_ptr J J) J<|AM.qv (q_load_ptr J J .p0 J) J<|AM.qv (t_len J) J<|bndE h fun n2 e2 h=>AM.qv (t_remS J J e2) J<|AM.qv (q_assign J) J<|AM.nil<|rN<|tS<|ATodo.regionM (id := 5) (A := [0,1,3,7,15,0,32,96,224,480,1023,2047]) 12 mixed J (by kernel_rfl) (by kernel_rfl)<|AM.qv (q_move J) J<|AM.qv (q_nilCheck_ptr J) J<|AM.qv (n_field_ptr J J) J<|AM.qv (q_load_ptr J J .p0 J) J<|AM.qv (q_subw J J) J<|AM.qv (q_move J) J<|AM.qv (q_nilCheck_ptr J) J<|AM.qv (n_field_ptr J J) J<|AM.qv (q_load_ptr J J .p0 J) J<|AM.qv (t_len J) J<|bndE h fun n3 e3 h=>AM.qv (t_quoS J J e3) J<|AM.qv (q_assign J) J<|AM.nil<|rN<|tSR<|rM J J<|ARun.qv (q_nilCheck_ptr J) J<|rF J J J<|rL J J .p0 J J<|rM J J<|bndE h fun v4 e4 h=>ARun.qv (t_index J J J e4 J J) J<|ARun.qv (q_load_rptr J J J) J<|bndE h fun v5 e5 h=>r_callp J (Below_c e5) (CoL.refl _) J<|rM J J<|rM J J<|ARun.qv (q_addw J J) J<|ARun.qv (q_mulw J J) J<|ARun.qv (q_addw J J) J<|rM J J<|bndE h fun v6 e6 h=>r_callp J (Below_c e6) (CoL.refl _) J<|rA J J<|rN<|ATodo.ret<|?_
    obtain rfl := Option.some.inj h
    exact ImpX.here ⟨_,.cons (.tmp _ _ J) .nil,_,.cons .p0 .nil,⟨J,J⟩⟩

theorem Stream_Some_c [GI : GTab] {b_0 : Bk} {p0x0 : Fleetmake_Stream} {p1x0 : List Str} {r : Str × Fleetmake_Stream} (h : Stream_Some p0x0 p1x0 = some r) : ACall Tryz.prog 10 [.ptr b_0 0,lE1 p1x0] [(b_0,.cells [lE0 p0x0.L,I p0x0.at_])] (T0 ([(b_0,.cells [lE0 r.2.L,I r.2.at_])]) (.str r.1)) := by
  unfold Stream_Some at h
  refine ACall.lessH ?_
  refine ACall.bodyN Tryz.func10 J Tryz.ntmps10 Tryz.results10 J J ?_
  refine tSR<|rA J J<|rN<|tSR<|rM J J<|rM J J<|rM J J<|ARun.qv (t_len J) J<|bndE h fun v1 e1 h=>t_call0 J (Stream_Next_c e1) (CoL.refl _) (.cons .p0 .nil) J J<|bndE h fun v2 e2 h=>ARun.qv (t_index J J J e2 J J) J<|ARun.qv (q_load_rptr J J J) J<|rA J J<|rN<|ATodo.ret<|?_
  obtain rfl := Option.some.inj h
  exact ImpX.here ⟨_,.cons (.tmp _ _ J) .nil,_,.cons .p0 .nil,⟨J,J⟩⟩

theorem Stream_RightKinds_c [GI : GTab] {b_0 : Bk} {p0x0 : Fleetmake_Stream} {r : (Model × Model) × Fleetmake_Stream} (h : Stream_RightKinds p0x0 = some r) : ACall Tryz.prog 57 [.ptr b_0 0] [(b_0,.cells [lE0 p0x0.L,I p0x0.at_])] (T3 (fun d_0 d_0x2 d_0x5=>[(b_0,.cells [lE0 r.2.L,I r.2.at_]),((⟨some d_0,2⟩ : Bk),.cells [.str r.1.1.Key,.str r.1.1.Prefix,.sl 4 d_0x2 0 r.1.1.Props.length,.str r.1.2.Key,.str r.1.2.Prefix,.sl 4 d_0x5 0 r.1.2.Props.length]),(d_0x2,aE2 r.1.1.Props),(d_0x5,aE2 r.1.2.Props)]) (fun d_0 d_0x2 d_0x5=>.sl 3 (⟨some d_0,2⟩ : Bk) 0 2)) := by
  unfold Stream_RightKinds at h
  refine ACall.lessH ?_
  refine ACall.bodyN Tryz.func57 J Tryz.ntmps57 Tryz.results57 J J ?_
  refine tSR<|rA J J<|rN<|tSR<|ARun.qv (n_build J J J J J) J<|ARun.qv (n_build J J J J J) J<|ARun.qv (n_build J J J J J) J<|n_buildSlice J J J J J J fun b1=>ARun.qv (n_build J J J J J) J<|rM J J<|n_buildSliceL (xs := ([([65,66,67] : Str),([88,89] : Str),([90,90,90,90] : Str)]).map AV.str) J J J J J J<|bndE h fun v2 e1 h=>t_call0 J (Stream_Some_c e1) (CoL.refl _) (.cons .p1 .nil) J J<|ARun.qv (n_build J J J J J) J<|n_buildSlice J J J J J J fun b3=>ARun.qv (n_build J J J J J) J<|n_buildSliceM (xs := [.agg [.str ([109,97] : Str),.str ([65,66] : Str),.sl 4 b1 0 [(⟨([97] : Str),(2 : Int),(-5 : Int),(50 : Int)⟩ : PropType),(⟨([98] : Str),(3 : Int),(0 : Int),(0 : Int)⟩ : PropType),(⟨([102,97,110,46,111,110] : Str),(1 : Int),(0 : Int),(0 : Int)⟩ : PropType)].length],.agg [.str ([109,98] : Str),.str v2.1,.sl 4 b3 0 [(⟨([97] : Str),(1 : Int),(0 : Int),(0 : Int)⟩ : PropType)].length]]) J J J J J J fun m4=>ARun.ghost<|ImpX.arrCells .p0 J J<|ImpX.here<|?_
  generalize e2 : (⟨some m4,2⟩ : Bk) = b5
  refine rA J J<|rN<|ATodo.ret<|?_
  obtain rfl := Option.some.inj h
  subst e2
  exact ImpX.here ⟨_,.cons (.tmp _ _ J) .nil,_,.cons .p2 (.cons .p0 (.cons .p1 (.cons .p0 .nil))),⟨m4,b1,b3,J,J⟩⟩

theorem Stream_Flip_c [GI : GTab] {b_0 : Bk} {p0x0 : Fleetmake_Stream} {p1x0 : Int} {r : Bool × Fleetmake_Stream} (h : Stream_Flip p0x0 p1x0 = some r) : ACall Tryz.prog 45 [.ptr b_0 0,I p1x0] [(b_0,.cells [lE0 p0x0.L,I p0x0.at_])] (T0 ([(b_0,.cells [lE0 r.2.L,I r.2.at_])]) (.bool r.1)) := by
  unfold Stream_Flip at h
  refine ACall.lessH ?_
  refine ACall.bodyN Tryz.func45 J Tryz.ntmps45 Tryz.results45 J J ?_
  refine tSR<|rA J J<|rN<|tSR<|rM J J<|rM J J<|bndE h fun v1 e1 h=>t_call0 J (Stream_Next_c e1) (CoL.refl _) (.cons .p0 .nil) J J<|ARun.qv (q_eql J J) J<|rA J J<|rN<|ATodo.ret<|?_
  obtain rfl := Option.some.inj h
  exact ImpX.here ⟨_,.cons (.tmp _ _ J) .nil,_,.cons .p0 .nil,⟨J,J⟩⟩

theorem Stream_Pick_c [GI : GTab] {b_0 : Bk} {p0x0 : Fleetmake_Stream} {p1x0 : List Int} {r : Int × Fleetmake_Stream} (h : Stream_Pick p0x0 p1x0 = some r) : ACall Tryz.prog 44 [.ptr b_0 0,lE0 p1x0] [(b_0,.cells [lE0 p0x0.L,I p0x0.at_])] (T0 ([(b_0,.cells [lE0 r.2.L,I r.2.at_])]) (I r.1)) := by
  unfold Stream_Pick at h
  refine ACall.lessH ?_
  refine ACall.bodyN Tryz.func44 J Tryz.ntmps44 Tryz.results44 J J ?_
  refine tSR<|rA J J<|rN<|tSR<|rM J J<|rM J J<|rM J J<|ARun.qv (t_len J) J<|bndE h fun v1 e1 h=>t_call0 J (Stream_Next_c e1) (CoL.refl _) (.cons .p0 .nil) J J<|bndE h fun v2 e2 h=>ARun.qv (t_index J J J e2 J J) J<|ARun.qv (q_load_rptr J J J) J<|rA J J<|rN<|ATodo.ret<|?_
  obtain rfl := Option.some.inj h
  exact ImpX.here ⟨_,.cons (.tmp _ _ J) .nil,_,.cons .p0 .nil,⟨J,J⟩⟩

theorem Stream_Range_c [GI : GTab] {b_0 : Bk} {p0x0 : Fleetmake_Stream} {p1x0 : Int} {p2x0 : Int} {r : Int × Fleetmake_Stream} (h : Stream_Range p0x0 p1x0 p2x0 = some r) : ACall Tryz.prog 9 [.ptr b_0 0,I p1x0,I p2x0] [(b_0,.cells [lE0 p0x0.L,I p0x0.at_])] (T0 ([(b_0,.cells [lE0 r.2.L,I r.2.at_])]) (I r.1)) := by
  unfold Stream_Range at h
  refine ACall.lessH ?_
  refine ACall.bodyN Tryz.func9 J Tryz.ntmps9 Tryz.results9 J J ?_
  refine tSR<|rA J J<|rN<|tS<|tSR<|rM J J<|rM J J<|ARun.qv (q_lss J J) J<|rN<|ATodo.cond_d J (fun hc=>?_) (fun hc=>?_)
  · refine have h := iteT hc h; tSR<|rM J J<|rA J J<|rN<|ATodo.ret<|?_
    obtain rfl := Option.some.inj h
    exact ImpX.here ⟨_,.cons (.tmp _ _ J) .nil,_,.cons .p0 .nil,⟨J,J⟩⟩
  · refine have h := iteF hc h; tK<|tSR<|rM J J<|rM J J<|rM J J<|rM J J<|ARun.qv (q_subw J J) J<|ARun.qv (q_addw J J) J<|bndE h fun v1 e1 h=>t_call0 J (Stream_Next_c e1) (CoL.refl _) (.cons .p0 .nil) J J<|ARun.qv (q_addw J J) J<|rA J J<|rN<|ATodo.ret<|?_
    obtain rfl := Option.some.inj h
    exact ImpX.here ⟨_,.cons (.tmp _ _ J) .nil,_,.cons .p0 .nil,⟨J,J⟩⟩

theorem Stream_Odd_c [GI : GTab] {b_0 : Bk} {p0x0 : Fleetmake_Stream} {p1x0 : Int} {p2x0 : Int} {r : Int × Fleetmake_Stream} (h : Stream_Odd p0x0 p1x0 p2x0 = some r) : ACall Tryz.prog 58 [.ptr b_0 0,I p1x0,I p2x0] [(b_0,.cells [lE0 p0x0.L,I p0x0.at_])] (T0 ([(b_0,.cells [lE0 r.2.L,I r.2.at_])]) (I r.1)) := by
  unfold Stream_Odd at h
  refine ACall.lessH ?_
  refine ACall.bodyN Tryz.func58 J Tryz.ntmps58 Tryz.results58 J J ?_
  refine tSR<|rA J J<|rN<|tS<|tSR<|rM J J<|bndE h fun v1 e1 h=>t_call0 J (Stream_Flip_c e1) (CoL.refl _) (.cons .p0 .nil) J J<|rN<|ATodo.cond J (fun hc=>?_) (fun hc=>?_)
  · refine have h := iteT hc h; tSR<|rM J J<|rM J J<|ARun.qv (q_subw J J) J<|rM J J<|ARun.qv (q_addw J J) J<|rM J J<|rM J J<|n_buildSliceL (xs := ([w64 (p1x0 - (1 : Int)),w64 (p2x0 + (1 : Int)),p1x0,p2x0,(-1099511627776 : Int),(1099511627776 : Int)]).map I) J J J J J J<|bndE h fun v2 e2 h=>t_call0 J (Stream_Pick_c e2) (CoL.refl _) (.cons .p0 .nil) J J<|rA J J<|rN<|ATodo.ret<|?_
    obtain rfl := Option.some.inj h
    exact ImpX.here ⟨_,.cons (.tmp _ _ J) .nil,_,.cons .p0 .nil,⟨J,J⟩⟩
  · refine have h := iteFb hc h; tK<|tSR<|rM J J<|rM J J<|rM J J<|bndE h fun v3 e3 h=>t_call0 J (Stream_Range_c e3) (CoL.refl _) (.cons .p0 .nil) J J<|rA J J<|rN<|ATodo.ret<|?_
    obtain rfl := Option.some.inj h
    exact ImpX.here ⟨_,.cons (.tmp _ _ J) .nil,_,.cons .p0 .nil,⟨J,J⟩⟩

theorem Stream_Kinds_c [GI : GTab] {b_0 : Bk} {p0x0 : Fleetmake_Stream} {r : (List Model) × Fleetmake_Stream} (h : Stream_Kinds p0x0 = some r) : ACall Tryz.prog 7 [.ptr b_0 0] [(b_0,.cells [lE0 p0x0.L,I p0x0.at_])] (T0 ([(b_0,.cells [lE0 r.2.L,I r.2.at_])]) (lE3 r.1)) := by
  unfold Stream_Kinds at h
  refine ACall.lessH ?_
  refine ACall.bodyN Tryz.func7 J Tryz.ntmps7 Tryz.results7 J J ?_
  refine tSR<|rA J J<|rN<|tSR<|rM J J<|bndE h fun v1 e1 h=>t_call3 J (Stream_RightKinds_c e1) (CoL.refl _) (.cons .p0 .nil) (fun _ _ _=>J) J fun m2 b4 b5=>?_
  generalize e2 : (⟨some m2,2⟩ : Bk) = b3
  refine rA J J<|rN<|tS<|tSR<|rM J J<|bndE h fun v6 e3 h=>t_call0 J (Stream_Flip_c e3) (CoL.refl _) (.cons .p0 .nil) J J<|rN<|ATodo.cut (fun σ'=>∃ (b9 : Bk) (l7 : List Int) (n8 : Int) (l10 : List Model),Stream_Kinds_j1 l7 n8 l10 = some r ∧ σ' = ⟨71,[(3,.sl 3 b9 0 l10.length)],[(b_0,.cells [lE0 l7,I n8]),(b9,aE3 l10)]⟩) ?_ ?_
  · refine ATodo.cond J (fun hc=>?_) (fun hc=>?_)
    · refine have h := iteT hc h; tSR<|rM J J<|rM J J<|bndE h fun v11 e4 h=>t_call0 J (Stream_Next_c e4) (CoL.refl _) (.cons .p0 .nil) J J<|Classical.byCases (p := v11.1 = (0 : Int)) (fun hqe5=>?_) (fun hqe5=>?_)
      · replace h := iteT hqe5 h
        refine ARun.qv (q_index_lit (q := 0) (o := 0) J J J hqe5 J J) J<|rA J J<|rN<|tSR<|rM J J<|bndE h fun v12 e6 h=>t_call0 J (Stream_Next_c e6) (CoL.refl _) (.cons .p0 .nil) J J<|rN<|ATodo.block<|tSR<|ARun.qv (q_eql J J) J<|rA J J<|rN<|ATodo.cut (fun σ'=>∃ (b15 : Bk) (l13 : List Int) (n14 : Int) (l16 : List Model),Stream_Kinds_j2 l13 n14 l16 = some r ∧ σ' = ⟨71,[(3,.sl 3 b15 0 l16.length)],[(b_0,.cells [lE0 l13,I n14]),(b15,aE3 l16)]⟩) ?_ ?_
        · refine ATodo.cond_d J (fun hc=>?_) (fun hc=>?_)
          · exact have h := iteT hc h; tR<|rM J J<|rM J J<|n_buildSliceL (xs := ([([] : Str),([109,97] : Str),([65] : Str)]).map AV.str) J J J J J J<|bndE h fun v17 e7 h=>t_call0 J (Stream_Some_c e7) (CoL.refl _) (.cons .p0 .nil) J J<|ARun.qv (q_nilCheck_ptr J) J<|rF J J J<|n_store_ptr J J J J .p1 J J<|rN<|ATodo.stop<|ImpX.freeze .p2<|ImpX.coBox (j := 2) .p1 J (Co.froT .p2) J J<|ImpX.freeze .p3<|ImpX.coBox (j := 5) .p1 J (Co.froT .p3) J J<|ImpX.cellsArr (xs := ([(⟨v17.1,v1.1.1.Prefix,v1.1.1.Props⟩ : Model),v1.1.2] : List Model).map Model.av) e2 .p1 J J J<|ImpX.lq [0,0] ⟨b3,v17.2.L,v17.2.at_,[(⟨v17.1,v1.1.1.Prefix,v1.1.1.Props⟩ : Model),v1.1.2],h,J⟩ J J
          · refine have h := iteF hc h; tSR<|ARun.qv (q_eql J J) J<|rA J J<|rN<|ATodo.cut (fun σ'=>∃ (b20 : Bk) (l18 : List Int) (n19 : Int) (l21 : List Model),Stream_Kinds_j3 l18 n19 l21 = some r ∧ σ' = ⟨71,[(3,.sl 3 b20 0 l21.length)],[(b_0,.cells [lE0 l18,I n19]),(b20,aE3 l21)]⟩) ?_ ?_
            · refine ATodo.cond_d J (fun hc=>?_) (fun hc=>?_)
              · exact have h := iteT hc h; tR<|rM J J<|rM J J<|n_buildSliceL (xs := ([([65] : Str),([65,66,67,68,69] : Str),([97,98] : Str),([65,66] : Str),([65,49] : Str)]).map AV.str) J J J J J J<|bndE h fun v22 e8 h=>t_call0 J (Stream_Some_c e8) (CoL.refl _) (.cons .p0 .nil) J J<|ARun.qv (q_nilCheck_ptr J) J<|rF J J J<|n_store_ptr J J J J .p1 J J<|rN<|ATodo.stop<|ImpX.freeze .p2<|ImpX.coBox (j := 2) .p1 J (Co.froT .p2) J J<|ImpX.freeze .p3<|ImpX.coBox (j := 5) .p1 J (Co.froT .p3) J J<|ImpX.cellsArr (xs := ([(⟨v1.1.1.Key,v22.1,v1.1.1.Props⟩ : Model),v1.1.2] : List Model).map Model.av) e2 .p1 J J J<|ImpX.lq [0,0] ⟨b3,v22.2.L,v22.2.at_,[(⟨v1.1.1.Key,v22.1,v1.1.1.Props⟩ : Model),v1.1.2],h,J⟩ J J
              · refine have h := iteF hc h; tSR<|ARun.qv (q_eql J J) J<|rA J J<|rN<|ATodo.cut (fun σ'=>∃ (b25 : Bk) (l23 : List Int) (n24 : Int) (l26 : List Model),Stream_Kinds_j4 l23 n24 l26 = some r ∧ σ' = ⟨71,[(3,.sl 3 b25 0 l26.length)],[(b_0,.cells [lE0 l23,I n24]),(b25,aE3 l26)]⟩) ?_ ?_
                · refine ATodo.cond_d J (fun hc=>?_) (fun hc=>?_)
                  · refine have h := iteT hc h; bndE h fun v27 e9 h=>bndE h fun v28 e10 h=>bndE h fun l29 e11 h=>ATodo.regionT (id := 11) (A := [0,0,2,6,14,0,0,96,0,480,992,2016,4094,8191,16383,32767]) (H0 := [(b_0,.cells [lE0 v12.2.L,I v12.2.at_]),(b4,aE2 v1.1.1.Props)]) (HH := fun β=>[(b_0,.cells [lE0 v28.2.L,I v28.2.at_]),((β 12),aE2 l29),(b3,.cells [.str v1.1.1.Key,.str v1.1.1.Prefix,.sl 4 b4 0 v1.1.1.Props.length,.str v1.1.2.Key,.str v1.1.2.Prefix,.sl 4 b5 0 v1.1.2.Props.length]),(b5,aE2 v1.1.2.Props)]) 13 mixed J (by kernel_rfl) (by kernel_rfl) [⟨none,some 7,[],fun _=>(b_0,.cells [lE0 v12.2.L,I v12.2.at_]),none,[]⟩,⟨none,some 12,[],fun _=>(b4,aE2 v1.1.1.Props),none,[]⟩,⟨some 7,some 9,[],fun _=>(b_0,.cells [lE0 v27.2.L,I v27.2.at_]),none,[]⟩,⟨some 9,none,[],fun _=>(b_0,.cells [lE0 v28.2.L,I v28.2.at_]),none,[]⟩,⟨some 12,none,[],fun b=>(b,aE2 l29),none,[]⟩] [12] J (by kernel_rfl) J (.cons .p0 (.cons .p1 .nil)) (fun _=>J)<|AT.am 7 J J<|AM.qv (q_move J) J<|AM.qv (q_move J) J<|AM.qv (q_nilCheck_ptr J) J<|AM.qv (n_field_ptr J J) J<|AM.qv (q_load_ptr J J .p0 J) J<|AM.qv (q_move J) J<|AM.buildSliceL (xs := ([([122,122] : Str),([97] : Str),([97,46,46,98] : Str),([65] : Str),([97,46,98,46,99,46,100,46,101,46,102] : Str)]).map AV.str) J J J J J J<|AM.nil<|AT.runS (av := .str v27.1) (Ti := [(b_0,.cells [lE0 v12.2.L,I v12.2.at_])]) (Pi := [(b_0,.cells [lE0 v27.2.L,I v27.2.at_])]) (fun _=>J) (fun _=>J) (fun _=>J) J J J ?_ ?_
                    · exact t_call0 J (Stream_Some_c e9) (CoL.refl _) (.cons .p0 .nil) J J<|ARun.nil ⟨_,J,J⟩
                    refine AT.am 1 J J<|AM.qv (q_move J) J<|AM.nil<|AT.runS (av := I v28.1) (Ti := [(b_0,.cells [lE0 v27.2.L,I v27.2.at_])]) (Pi := [(b_0,.cells [lE0 v28.2.L,I v28.2.at_])]) (fun _=>J) (fun _=>J) (fun _=>J) J J J ?_ ?_
                    · exact t_call0 J (Stream_Odd_c e10) (CoL.refl _) (.cons .p0 .nil) J J<|ARun.nil ⟨_,J,J⟩
                    refine AT.am 2 J J<|AM.qv (n_build J J J J J) J<|AM.buildSliceL (xs := ([(⟨v27.1,v28.1,(0 : Int),(0 : Int)⟩ : PropType)]).map PropType.av) J J J J J J<|AM.nil<|AT.runD (V := fun b=>.sl 4 b 0 l29.length) (Ti := [(b4,aE2 v1.1.1.Props)]) (Pi := fun b=>[(b,aE2 l29)]) (fun _=>J) (fun _=>J) (fun _ _=>J) J (fun _=>J) J J J ?_ ?_
                    · exact t_append (g := PropType.av) J J J J J J J J (.list _) e11 (fun _=>.p0) J fun b30=>ARun.nil ⟨b30,_,J,J⟩
                    refine AT.nilN (fun _=>J) fun β=>?_
                    generalize β 12 = b30
                    clear β
                    exact ARun.qv (q_nilCheck_ptr J) J<|rF J J J<|n_store_ptr J J J J .p2 J J<|rN<|ATodo.stop<|ImpX.freeze .p1<|ImpX.coBox (j := 2) .p2 J (Co.froT .p1) J J<|ImpX.freeze .p3<|ImpX.coBox (j := 5) .p2 J (Co.froT .p3) J J<|ImpX.cellsArr (xs := ([(⟨v1.1.1.Key,v1.1.1.Prefix,l29⟩ : Model),v1.1.2] : List Model).map Model.av) e2 .p2 J J J<|ImpX.lq [0,1] ⟨b3,v28.2.L,v28.2.at_,[(⟨v1.1.1.Key,v1.1.1.Prefix,l29⟩ : Model),v1.1.2],h,J⟩ J J
                  · refine have h := iteF hc h; tSR<|ARun.qv (q_eql J J) J<|rA J J<|rN<|ATodo.cut (fun σ'=>∃ (b33 : Bk) (l31 : List Int) (n32 : Int) (l34 : List Model),Stream_Kinds_j5 l31 n32 l34 = some r ∧ σ' = ⟨71,[(3,.sl 3 b33 0 l34.length)],[(b_0,.cells [lE0 l31,I n32]),(b33,aE3 l34)]⟩) ?_ ?_
                    · refine ATodo.cond_d J (fun hc=>?_) (fun hc=>?_)
                      · refine have h := iteT hc h; bndE h fun v35 e12 h=>bndE h fun v36 e13 h=>ATodo.regionT (id := 13) (A := [0,1,3,7,0,16,48,112,0,256,0,1792,4095,8191,16383,32767,65535,131071]) (H0 := [(b_0,.cells [lE0 v12.2.L,I v12.2.at_])]) (HH := fun β=>[(b_0,.cells [lE0 v36.2.L,I v36.2.at_]),(b3,.cells [.str v1.1.1.Key,.str v1.1.1.Prefix,.sl 4 b4 0 v1.1.1.Props.length,.str v1.1.2.Key,.str v1.1.2.Prefix,.sl 4 b5 0 v1.1.2.Props.length]),(b4,aE2 v1.1.1.Props),(b5,aE2 v1.1.2.Props)]) 12 mixed J (by kernel_rfl) (by kernel_rfl) [⟨none,some 9,[],fun _=>(b_0,.cells [lE0 v12.2.L,I v12.2.at_]),none,[]⟩,⟨some 9,some 11,[],fun _=>(b_0,.cells [lE0 v35.2.L,I v35.2.at_]),none,[]⟩,⟨some 11,none,[],fun _=>(b_0,.cells [lE0 v36.2.L,I v36.2.at_]),none,[]⟩] [] J (by kernel_rfl) J (.cons .p0 .nil) (fun _=>J)<|AT.am 9 J J<|AM.qv (q_move J) J<|AM.qv (q_nilCheck_ptr J) J<|AM.qv (n_field_ptr J J) J<|AM.qv (q_load_ptr J J .p0 J) J<|AM.qv (q_move J) J<|AM.qv (q_nilCheck_ptr J) J<|AM.qv (n_field_ptr J J) J<|AM.qv (q_load_ptr J J .p0 J) J<|AM.qv (q_move J) J<|AM.nil<|AT.runS (av := I v35.1) (Ti := [(b_0,.cells [lE0 v12.2.L,I v12.2.at_])]) (Pi := [(b_0,.cells [lE0 v35.2.L,I v35.2.at_])]) (fun _=>J) (fun _=>J) (fun _=>J) J J J ?_ ?_
                        · exact t_call0 J (Stream_Odd_c e12) (CoL.refl _) (.cons .p0 .nil) J J<|ARun.nil ⟨_,J,J⟩
                        refine AT.am 1 J J<|AM.qv (q_move J) J<|AM.nil<|AT.runS (av := I v36.1) (Ti := [(b_0,.cells [lE0 v35.2.L,I v35.2.at_])]) (Pi := [(b_0,.cells [lE0 v36.2.L,I v36.2.at_])]) (fun _=>J) (fun _=>J) (fun _=>J) J J J ?_ ?_
                        · exact t_call0 J (Stream_Odd_c e13) (CoL.refl _) (.cons .p0 .nil) J J<|ARun.nil ⟨_,J,J⟩
                        exact AT.nilN (fun _=>J) fun β=>bndE h fun v37 e14 h=>ARun.qv (t_index_sl J J J e14) J<|ARun.qv (t_field_aptr J J) J<|t_store_aptr1 (g := PropType.av) (el' := (⟨v37.Name,v37.Kind,v35.1,v37.High⟩ : PropType)) J J J J e14 J .p2 J<|ARun.ghost<|ImpX.eqs (s := 57) (av' := .sl 4 b4 0 (v1.1.1.Props.set (0 : Int).toNat (⟨v37.Name,v37.Kind,v35.1,v37.High⟩ : PropType)).length) J (by rw [List.length_set])<|ImpX.here<|ARun.ghost<|ImpX.eqs (s := 61) (av' := .sl 4 b4 0 (v1.1.1.Props.set (0 : Int).toNat (⟨v37.Name,v37.Kind,v35.1,v37.High⟩ : PropType)).length) J (by rw [List.length_set])<|ImpX.here<|ARun.ghost<|ImpX.eqBox (j := 2) (av' := .sl 4 b4 0 (v1.1.1.Props.set (0 : Int).toNat (⟨v37.Name,v37.Kind,v35.1,v37.High⟩ : PropType)).length) .p1 J (by rw [List.length_set]) J<|ImpX.here<|bndE h fun v38 e15 h=>ARun.qv (t_index_sl J J J e15) J<|ARun.qv (t_field_aptr J J) J<|t_store_aptr1 (g := PropType.av) (el' := (⟨v38.Name,v38.Kind,v38.Low,v36.1⟩ : PropType)) J J J J e15 J .p2 J<|ARun.ghost<|ImpX.eqs (s := 57) (av' := .sl 4 b4 0 ((v1.1.1.Props.set (0 : Int).toNat (⟨v37.Name,v37.Kind,v35.1,v37.High⟩ : PropType)).set (0 : Int).toNat (⟨v38.Name,v38.Kind,v38.Low,v36.1⟩ : PropType)).length) J (by rw [List.length_set])<|ImpX.here<|ARun.ghost<|ImpX.eqs (s := 61) (av' := .sl 4 b4 0 ((v1.1.1.Props.set (0 : Int).toNat (⟨v37.Name,v37.Kind,v35.1,v37.High⟩ : PropType)).set (0 : Int).toNat (⟨v38.Name,v38.Kind,v38.Low,v36.1⟩ : PropType)).length) J (by rw [List.length_set])<|ImpX.here<|ARun.ghost<|ImpX.eqBox (j := 2) (av' := .sl 4 b4 0 ((v1.1.1.Props.set (0 : Int).toNat (⟨v37.Name,v37.Kind,v35.1,v37.High⟩ : PropType)).set (0 : Int).toNat (⟨v38.Name,v38.Kind,v38.Low,v36.1⟩ : PropType)).length) .p1 J (by rw [List.length_set]) J<|ImpX.here<|rN<|ATodo.stop<|ImpX.freeze .p2<|ImpX.coBox (j := 2) .p1 J (Co.froT .p2) J J<|ImpX.freeze .p3<|ImpX.coBox (j := 5) .p1 J (Co.froT .p3) J J<|ImpX.cellsArr (xs := ([(⟨v1.1.1.Key,v1.1.1.Prefix,(v1.1.1.Props.set (0 : Int).toNat (⟨v37.Name,v37.Kind,v35.1,v37.High⟩ : PropType)).set (0 : Int).toNat (⟨v38.Name,v38.Kind,v38.Low,v36.1⟩ : PropType)⟩ : Model),v1.1.2] : List Model).map Model.av) e2 .p1 J J J<|ImpX.lq [0,0] ⟨b3,v36.2.L,v36.2.at_,[(⟨v1.1.1.Key,v1.1.1.Prefix,(v1.1.1.Props.set (0 : Int).toNat (⟨v37.Name,v37.Kind,v35.1,v37.High⟩ : PropType)).set (0 : Int).toNat (⟨v38.Name,v38.Kind,v38.Low,v36.1⟩ : PropType)⟩ : Model),v1.1.2],h,J⟩ J J
                      · exact have h := iteF hc h; tR<|rM J J<|ARun.qv (n_build J J J J J) J<|n_buildSliceL (xs := [.agg [.str ([109,122] : Str),.str ([81,81] : Str),.nil]]) J J J J J J<|ARun.ghost<|ImpX.cox (s := 17) (av' := .list 3 (([(⟨([109,122] : Str),([81,81] : Str),[]⟩ : Model)] : List Model).map Model.av)) J (CoX.listL (.cons .r (.cons .r (.cons .n .nil))) J J)<|ImpX.here<|ARun.ghost<|ImpX.freeze .p2<|ImpX.here<|ARun.ghost<|ImpX.coBox (j := 2) .p1 J (Co.froT .p2) J J<|ImpX.here<|ARun.ghost<|ImpX.freeze .p3<|ImpX.here<|ARun.ghost<|ImpX.coBox (j := 5) .p1 J (Co.froT .p3) J J<|ImpX.here<|ARun.ghost<|ImpX.cellsArr (xs := ([v1.1.1,v1.1.2] : List Model).map Model.av) e2 .p1 J J J<|ImpX.here<|bndE h fun l39 e16 h=>t_append (g := Model.av) J J J J J J J J (.list _) e16 (fun _=>.p1) J fun b40=>rA J J<|rN<|ATodo.stop<|ImpX.lq [0,0] ⟨b40,v12.2.L,v12.2.at_,l39,h,J⟩ J J
                    · rintro σ' ⟨b33, l31, n32, l34, h, rfl⟩
                      unfold Stream_Kinds_j5 at h
                      exact ATodo.stop<|ImpX.lq [0,0] ⟨b33,l31,n32,l34,h,J⟩ J J
                · rintro σ' ⟨b25, l23, n24, l26, h, rfl⟩
                  unfold Stream_Kinds_j4 at h
                  exact ATodo.stop<|ImpX.lq [0,0] ⟨b25,l23,n24,l26,h,J⟩ J J
            · rintro σ' ⟨b20, l18, n19, l21, h, rfl⟩
              unfold Stream_Kinds_j3 at h
              exact ATodo.stop<|ImpX.lq [0,0] ⟨b20,l18,n19,l21,h,J⟩ J J
        · rintro σ' ⟨b15, l13, n14, l16, h, rfl⟩
          unfold Stream_Kinds_j2 at h
          exact ATodo.blk<|ATodo.stop<|ImpX.lq [0,0] ⟨b15,l13,n14,l16,h,J⟩ J J
      · replace h := iteF hqe5 h
        refine Classical.byCases (p := v11.1 = (1 : Int)) (fun hqe17=>?_) (fun hqe17=>?_)
        · replace h := iteT hqe17 h
          refine ARun.qv (q_index_lit (q := 1) (o := 3) J J J hqe17 J J) J<|rA J J<|rN<|tSR<|rM J J<|bndE h fun v41 e18 h=>t_call0 J (Stream_Next_c e18) (CoL.refl _) (.cons .p0 .nil) J J<|rN<|ATodo.block<|tSR<|ARun.qv (q_eql J J) J<|rA J J<|rN<|ATodo.cut (fun σ'=>∃ (b44 : Bk) (l42 : List Int) (n43 : Int) (l45 : List Model),Stream_Kinds_j6 l42 n43 l45 = some r ∧ σ' = ⟨71,[(3,.sl 3 b44 0 l45.length)],[(b_0,.cells [lE0 l42,I n43]),(b44,aE3 l45)]⟩) ?_ ?_
          · refine ATodo.cond_d J (fun hc=>?_) (fun hc=>?_)
            · exact have h := iteT hc h; tR<|rM J J<|rM J J<|n_buildSliceL (xs := ([([] : Str),([109,97] : Str),([65] : Str)]).map AV.str) J J J J J J<|bndE h fun v46 e19 h=>t_call0 J (Stream_Some_c e19) (CoL.refl _) (.cons .p0 .nil) J J<|ARun.qv (q_nilCheck_ptr J) J<|rF J J J<|n_store_ptr J J J J .p1 J J<|rN<|ATodo.stop<|ImpX.freeze .p2<|ImpX.coBox (j := 2) .p1 J (Co.froT .p2) J J<|ImpX.freeze .p3<|ImpX.coBox (j := 5) .p1 J (Co.froT .p3) J J<|ImpX.cellsArr (xs := ([v1.1.1,(⟨v46.1,v1.1.2.Prefix,v1.1.2.Props⟩ : Model)] : List Model).map Model.av) e2 .p1 J J J<|ImpX.lq [0,0] ⟨b3,v46.2.L,v46.2.at_,[v1.1.1,(⟨v46.1,v1.1.2.Prefix,v1.1.2.Props⟩ : Model)],h,J⟩ J J
            · refine have h := iteF hc h; tSR<|ARun.qv (q_eql J J) J<|rA J J<|rN<|ATodo.cut (fun σ'=>∃ (b49 : Bk) (l47 : List Int) (n48 : Int) (l50 : List Model),Stream_Kinds_j7 l47 n48 l50 = some r ∧ σ' = ⟨71,[(3,.sl 3 b49 0 l50.length)],[(b_0,.cells [lE0 l47,I n48]),(b49,aE3 l50)]⟩) ?_ ?_
              · refine ATodo.cond_d J (fun hc=>?_) (fun hc=>?_)
                · exact have h := iteT hc h; tR<|rM J J<|rM J J<|n_buildSliceL (xs := ([([65] : Str),([65,66,67,68,69] : Str),([97,98] : Str),([65,66] : Str),([65,49] : Str)]).map AV.str) J J J J J J<|bndE h fun v51 e20 h=>t_call0 J (Stream_Some_c e20) (CoL.refl _) (.cons .p0 .nil) J J<|ARun.qv (q_nilCheck_ptr J) J<|rF J J J<|n_store_ptr J J J J .p1 J J<|rN<|ATodo.stop<|ImpX.freeze .p2<|ImpX.coBox (j := 2) .p1 J (Co.froT .p2) J J<|ImpX.freeze .p3<|ImpX.coBox (j := 5) .p1 J (Co.froT .p3) J J<|ImpX.cellsArr (xs := ([v1.1.1,(⟨v1.1.2.Key,v51.1,v1.1.2.Props⟩ : Model)] : List Model).map Model.av) e2 .p1 J J J<|ImpX.lq [0,0] ⟨b3,v51.2.L,v51.2.at_,[v1.1.1,(⟨v1.1.2.Key,v51.1,v1.1.2.Props⟩ : Model)],h,J⟩ J J
                · refine have h := iteF hc h; tSR<|ARun.qv (q_eql J J) J<|rA J J<|rN<|ATodo.cut (fun σ'=>∃ (b54 : Bk) (l52 : List Int) (n53 : Int) (l55 : List Model),Stream_Kinds_j8 l52 n53 l55 = some r ∧ σ' = ⟨71,[(3,.sl 3 b54 0 l55.length)],[(b_0,.cells [lE0 l52,I n53]),(b54,aE3 l55)]⟩) ?_ ?_
                  · refine ATodo.cond_d J (fun hc=>?_) (fun hc=>?_)
                    · refine have h := iteT hc h; bndE h fun v56 e21 h=>bndE h fun v57 e22 h=>bndE h fun l58 e23 h=>ATodo.regionT (id := 11) (A := [0,0,2,6,14,0,0,96,0,480,992,2016,4094,8191,16383,32767]) (H0 := [(b_0,.cells [lE0 v41.2.L,I v41.2.at_]),(b5,aE2 v1.1.2.Props)]) (HH := fun β=>[(b_0,.cells [lE0 v57.2.L,I v57.2.at_]),((β 12),aE2 l58),(b3,.cells [.str v1.1.1.Key,.str v1.1.1.Prefix,.sl 4 b4 0 v1.1.1.Props.length,.str v1.1.2.Key,.str v1.1.2.Prefix,.sl 4 b5 0 v1.1.2.Props.length]),(b4,aE2 v1.1.1.Props)]) 13 mixed J (by kernel_rfl) (by kernel_rfl) [⟨none,some 7,[],fun _=>(b_0,.cells [lE0 v41.2.L,I v41.2.at_]),none,[]⟩,⟨none,some 12,[],fun _=>(b5,aE2 v1.1.2.Props),none,[]⟩,⟨some 7,some 9,[],fun _=>(b_0,.cells [lE0 v56.2.L,I v56.2.at_]),none,[]⟩,⟨some 9,none,[],fun _=>(b_0,.cells [lE0 v57.2.L,I v57.2.at_]),none,[]⟩,⟨some 12,none,[],fun b=>(b,aE2 l58),none,[]⟩] [12] J (by kernel_rfl) J (.cons .p0 (.cons .p2 .nil)) (fun _=>J)<|AT.am 7 J J<|AM.qv (q_move J) J<|AM.qv (q_move J) J<|AM.qv (q_nilCheck_ptr J) J<|AM.qv (n_field_ptr J J) J<|AM.qv (q_load_ptr J J .p0 J) J<|AM.qv (q_move J) J<|AM.buildSliceL (xs := ([([122,122] : Str),([97] : Str),([97,46,46,98] : Str),([65] : Str),([97,46,98,46,99,46,100,46,101,46,102] : Str)]).map AV.str) J J J J J J<|AM.nil<|AT.runS (av := .str v56.1) (Ti := [(b_0,.cells [lE0 v41.2.L,I v41.2.at_])]) (Pi := [(b_0,.cells [lE0 v56.2.L,I v56.2.at_])]) (fun _=>J) (fun _=>J) (fun _=>J) J J J ?_ ?_
                      · exact t_call0 J (Stream_Some_c e21) (CoL.refl _) (.cons .p0 .nil) J J<|ARun.nil ⟨_,J,J⟩
                      refine AT.am 1 J J<|AM.qv (q_move J) J<|AM.nil<|AT.runS (av := I v57.1) (Ti := [(b_0,.cells [lE0 v56.2.L,I v56.2.at_])]) (Pi := [(b_0,.cells [lE0 v57.2.L,I v57.2.at_])]) (fun _=>J) (fun _=>J) (fun _=>J) J J J ?_ ?_
                      · exact t_call0 J (Stream_Odd_c e22) (CoL.refl _) (.cons .p0 .nil) J J<|ARun.nil ⟨_,J,J⟩
                      refine AT.am 2 J J<|AM.qv (n_build J J J J J) J<|AM.buildSliceL (xs := ([(⟨v56.1,v57.1,(0 : Int),(0 : Int)⟩ : PropType)]).map PropType.av) J J J J J J<|AM.nil<|AT.runD (V := fun b=>.sl 4 b 0 l58.length) (Ti := [(b5,aE2 v1.1.2.Props)]) (Pi := fun b=>[(b,aE2 l58)]) (fun _=>J) (fun _=>J) (fun _ _=>J) J (fun _=>J) J J J ?_ ?_
                      · exact t_append (g := PropType.av) J J J J J J J J (.list _) e23 (fun _=>.p0) J fun b59=>ARun.nil ⟨b59,_,J,J⟩
                      refine AT.nilN (fun _=>J) fun β=>?_
                      generalize β 12 = b59
                      clear β
                      exact ARun.qv (q_nilCheck_ptr J) J<|rF J J J<|n_store_ptr J J J J .p2 J J<|rN<|ATodo.stop<|ImpX.freeze .p3<|ImpX.coBox (j := 2) .p2 J (Co.froT .p3) J J<|ImpX.freeze .p1<|ImpX.coBox (j := 5) .p2 J (Co.froT .p1) J J<|ImpX.cellsArr (xs := ([v1.1.1,(⟨v1.1.2.Key,v1.1.2.Prefix,l58⟩ : Model)] : List Model).map Model.av) e2 .p2 J J J<|ImpX.lq [0,1] ⟨b3,v57.2.L,v57.2.at_,[v1.1.1,(⟨v1.1.2.Key,v1.1.2.Prefix,l58⟩ : Model)],h,J⟩ J J
                    · refine have h := iteF hc h; tSR<|ARun.qv (q_eql J J) J<|rA J J<|rN<|ATodo.cut (fun σ'=>∃ (b62 : Bk) (l60 : List Int) (n61 : Int) (l63 : List Model),Stream_Kinds_j9 l60 n61 l63 = some r ∧ σ' = ⟨71,[(3,.sl 3 b62 0 l63.length)],[(b_0,.cells [lE0 l60,I n61]),(b62,aE3 l63)]⟩) ?_ ?_
                      · refine ATodo.cond_d J (fun hc=>?_) (fun hc=>?_)
                        · refine have h := iteT hc h; bndE h fun v64 e24 h=>bndE h fun v65 e25 h=>ATodo.regionT (id := 13) (A := [0,1,3,7,0,16,48,112,0,256,0,1792,4095,8191,16383,32767,65535,131071]) (H0 := [(b_0,.cells [lE0 v41.2.L,I v41.2.at_])]) (HH := fun β=>[(b_0,.cells [lE0 v65.2.L,I v65.2.at_]),(b3,.cells [.str v1.1.1.Key,.str v1.1.1.Prefix,.sl 4 b4 0 v1.1.1.Props.length,.str v1.1.2.Key,.str v1.1.2.Prefix,.sl 4 b5 0 v1.1.2.Props.length]),(b4,aE2 v1.1.1.Props),(b5,aE2 v1.1.2.Props)]) 12 mixed J (by kernel_rfl) (by kernel_rfl) [⟨none,some 9,[],fun _=>(b_0,.cells [lE0 v41.2.L,I v41.2.at_]),none,[]⟩,⟨some 9,some 11,[],fun _=>(b_0,.cells [lE0 v64.2.L,I v64.2.at_]),none,[]⟩,⟨some 11,none,[],fun _=>(b_0,.cells [lE0 v65.2.L,I v65.2.at_]),none,[]⟩] [] J (by kernel_rfl) J (.cons .p0 .nil) (fun _=>J)<|AT.am 9 J J<|AM.qv (q_move J) J<|AM.qv (q_nilCheck_ptr J) J<|AM.qv (n_field_ptr J J) J<|AM.qv (q_load_ptr J J .p0 J) J<|AM.qv (q_move J) J<|AM.qv (q_nilCheck_ptr J) J<|AM.qv (n_field_ptr J J) J<|AM.qv (q_load_ptr J J .p0 J) J<|AM.qv (q_move J) J<|AM.nil<|AT.runS (av := I v64.1) (Ti := [(b_0,.cells [lE0 v41.2.L,I v41.2.at_])]) (Pi := [(b_0,.cells [lE0 v64.2.L,I v64.2.at_])]) (fun _=>J) (fun _=>J) (fun _=>J) J J J ?_ ?_
                          · exact t_call0 J (Stream_Odd_c e24) (CoL.refl _) (.cons .p0 .nil) J J<|ARun.nil ⟨_,J,J⟩
                          refine AT.am 1 J J<|AM.qv (q_move J) J<|AM.nil<|AT.runS (av := I v65.1) (Ti := [(b_0,.cells [lE0 v64.2.L,I v64.2.at_])]) (Pi := [(b_0,.cells [lE0 v65.2.L,I v65.2.at_])]) (fun _=>J) (fun _=>J) (fun _=>J) J J J ?_ ?_
                          · exact t_call0 J (Stream_Odd_c e25) (CoL.refl _) (.cons .p0 .nil) J J<|ARun.nil ⟨_,J,J⟩
                          exact AT.nilN (fun _=>J) fun β=>bndE h fun v66 e26 h=>ARun.qv (t_index_sl J J J e26) J<|ARun.qv (t_field_aptr J J) J<|t_store_aptr1 (g := PropType.av) (el' := (⟨v66.Name,v66.Kind,v64.1,v66.High⟩ : PropType)) J J J J e26 J .p3 J<|ARun.ghost<|ImpX.eqs (s := 57) (av' := .sl 4 b5 0 (v1.1.2.Props.set (0 : Int).toNat (⟨v66.Name,v66.Kind,v64.1,v66.High⟩ : PropType)).length) J (by rw [List.length_set])<|ImpX.here<|ARun.ghost<|ImpX.eqs (s := 61) (av' := .sl 4 b5 0 (v1.1.2.Props.set (0 : Int).toNat (⟨v66.Name,v66.Kind,v64.1,v66.High⟩ : PropType)).length) J (by rw [List.length_set])<|ImpX.here<|ARun.ghost<|ImpX.eqBox (j := 5) (av' := .sl 4 b5 0 (v1.1.2.Props.set (0 : Int).toNat (⟨v66.Name,v66.Kind,v64.1,v66.High⟩ : PropType)).length) .p1 J (by rw [List.length_set]) J<|ImpX.here<|bndE h fun v67 e27 h=>ARun.qv (t_index_sl J J J e27) J<|ARun.qv (t_field_aptr J J) J<|t_store_aptr1 (g := PropType.av) (el' := (⟨v67.Name,v67.Kind,v67.Low,v65.1⟩ : PropType)) J J J J e27 J .p3 J<|ARun.ghost<|ImpX.eqs (s := 57) (av' := .sl 4 b5 0 ((v1.1.2.Props.set (0 : Int).toNat (⟨v66.Name,v66.Kind,v64.1,v66.High⟩ : PropType)).set (0 : Int).toNat (⟨v67.Name,v67.Kind,v67.Low,v65.1⟩ : PropType)).length) J (by rw [List.length_set])<|ImpX.here<|ARun.ghost<|ImpX.eqs (s := 61) (av' := .sl 4 b5 0 ((v1.1.2.Props.set (0 : Int).toNat (⟨v66.Name,v66.Kind,v64.1,v66.High⟩ : PropType)).set (0 : Int).toNat (⟨v67.Name,v67.Kind,v67.Low,v65.1⟩ : PropType)).length) J (by rw [List.length_set])<|ImpX.here<|ARun.ghost<|ImpX.eqBox (j := 5) (av' := .sl 4 b5 0 ((v1.1.2.Props.set (0 : Int).toNat (⟨v66.Name,v66.Kind,v64.1,v66.High⟩ : PropType)).set (0 : Int).toNat (⟨v67.Name,v67.Kind,v67.Low,v65.1⟩ : PropType)).length) .p1 J (by rw [List.length_set]) J<|ImpX.here<|rN<|ATodo.stop<|ImpX.freeze .p2<|ImpX.coBox (j := 2) .p1 J (Co.froT .p2) J J<|ImpX.freeze .p3<|ImpX.coBox (j := 5) .p1 J (Co.froT .p3) J J<|ImpX.cellsArr (xs := ([v1.1.1,(⟨v1.1.2.Key,v1.1.2.Prefix,(v1.1.2.Props.set (0 : Int).toNat (⟨v66.Name,v66.Kind,v64.1,v66.High⟩ : PropType)).set (0 : Int).toNat (⟨v67.Name,v67.Kind,v67.Low,v65.1⟩ : PropType)⟩ : Model)] : List Model).map Model.av) e2 .p1 J J J<|ImpX.lq [0,0] ⟨b3,v65.2.L,v65.2.at_,[v1.1.1,(⟨v1.1.2.Key,v1.1.2.Prefix,(v1.1.2.Props.set (0 : Int).toNat (⟨v66.Name,v66.Kind,v64.1,v66.High⟩ : PropType)).set (0 : Int).toNat (⟨v67.Name,v67.Kind,v67.Low,v65.1⟩ : PropType)⟩ : Model)],h,J⟩ J J
                        · exact have h := iteF hc h; tR<|rM J J<|ARun.qv (n_build J J J J J) J<|n_buildSliceL (xs := [.agg [.str ([109,122] : Str),.str ([81,81] : Str),.nil]]) J J J J J J<|ARun.ghost<|ImpX.cox (s := 17) (av' := .list 3 (([(⟨([109,122] : Str),([81,81] : Str),[]⟩ : Model)] : List Model).map Model.av)) J (CoX.listL (.cons .r (.cons .r (.cons .n .nil))) J J)<|ImpX.here<|ARun.ghost<|ImpX.freeze .p2<|ImpX.here<|ARun.ghost<|ImpX.coBox (j := 2) .p1 J (Co.froT .p2) J J<|ImpX.here<|ARun.ghost<|ImpX.freeze .p3<|ImpX.here<|ARun.ghost<|ImpX.coBox (j := 5) .p1 J (Co.froT .p3) J J<|ImpX.here<|ARun.ghost<|ImpX.cellsArr (xs := ([v1.1.1,v1.1.2] : List Model).map Model.av) e2 .p1 J J J<|ImpX.here<|bndE h fun l68 e28 h=>t_append (g := Model.av) J J J J J J J J (.list _) e28 (fun _=>.p1) J fun b69=>rA J J<|rN<|ATodo.stop<|ImpX.lq [0,0] ⟨b69,v41.2.L,v41.2.at_,l68,h,J⟩ J J
                      · rintro σ' ⟨b62, l60, n61, l63, h, rfl⟩
                        unfold Stream_Kinds_j9 at h
                        exact ATodo.stop<|ImpX.lq [0,0] ⟨b62,l60,n61,l63,h,J⟩ J J
                  · rintro σ' ⟨b54, l52, n53, l55, h, rfl⟩
                    unfold Stream_Kinds_j8 at h
                    exact ATodo.stop<|ImpX.lq [0,0] ⟨b54,l52,n53,l55,h,J⟩ J J
              · rintro σ' ⟨b49, l47, n48, l50, h, rfl⟩
                unfold Stream_Kinds_j7 at h
                exact ATodo.stop<|ImpX.lq [0,0] ⟨b49,l47,n48,l50,h,J⟩ J J
          · rintro σ' ⟨b44, l42, n43, l45, h, rfl⟩
            unfold Stream_Kinds_j6 at h
            exact ATodo.blk<|ATodo.stop<|ImpX.lq [0,0] ⟨b44,l42,n43,l45,h,J⟩ J J
        · replace h := iteF hqe17 h
          cases h
    · exact have h := iteFb hc h; tK<|ATodo.stop<|ImpX.freeze .p2<|ImpX.coBox (j := 2) .p1 J (Co.froT .p2) J J<|ImpX.freeze .p3<|ImpX.coBox (j := 5) .p1 J (Co.froT .p3) J J<|ImpX.cellsArr (xs := ([v1.1.1,v1.1.2] : List Model).map Model.av) e2 .p1 J J J<|ImpX.lq [0,0] ⟨b3,v6.2.L,v6.2.at_,[v1.1.1,v1.1.2],h,J⟩ J J
  · rintro σ' ⟨b9, l7, n8, l10, h, rfl⟩
    unfold Stream_Kinds_j1 at h
    refine tSR<|rM J J<|rA J J<|rN<|ATodo.ret<|?_
    obtain rfl := Option.some.inj h
    exact ImpX.freeze .p1<|ImpX.co (s := 2) J (Co.froT .p1)<|ImpX.here ⟨_,.cons (.tmp _ _ J) .nil,_,.cons .p0 .nil,⟨J,J⟩⟩

theorem Stream_Happening_c [GI : GTab] {b_0 : Bk} {p0x0 : Fleetmake_Stream} {p1x0 : Int} {r : EventS × Fleetmake_Stream} (h : Stream_Happening p0x0 p1x0 = some r) : ACall Tryz.prog 43 [.ptr b_0 0,I p1x0] [(b_0,.cells [lE0 p0x0.L,I p0x0.at_])] (T0 ([(b_0,.cells [lE0 r.2.L,I r.2.at_])]) (EventS.av r.1)) := by
  unfold Stream_Happening at h
  refine ACall.lessH ?_
  refine ACall.bodyN Tryz.func43 J Tryz.ntmps43 Tryz.results43 J J ?_
  refine tSR<|n_alloc J J J J fun b1=>rN<|tSR<|rM J J<|rM J J<|n_buildSliceL (xs := ([(1 : Int),(1 : Int),(2 : Int),(2 : Int),(3 : Int),(4 : Int),(5 : Int),(6 : Int),(6 : Int),(7 : Int),(8 : Int),(9 : Int)]).map I) J J J J J J<|bndE h fun v2 e1 h=>t_call0 J (Stream_Pick_c e1) (CoL.refl _) (.cons .p1 .nil) J J<|rM J J<|n_buildSliceL (xs := ([([100,97] : Str),([100,97] : Str),([100,98] : Str),([100,99] : Str)]).map AV.str) J J J J J J<|bndE h fun v3 e2 h=>t_call0 J (Stream_Some_c e2) (CoL.refl _) (.cons .p0 .nil) J J<|ARun.qv (n_build J J J J J) J<|n_alloc J J J J fun b4=>n_store_ptr J J J J .p0 J J<|rN<|tS<|tSR<|rF J J J<|rL J J .p0 J J<|rN<|ATodo.block<|tSR<|ARun.qv (q_eql J J) J<|rA J J<|rN<|ATodo.cut (fun σ'=>∃ (l5 : List Int) (n6 : Int) (q7 : Str) (q8 : Str) (n9 : Int) (q10 : Str) (q11 : Str) (q12 : Str) (n13 : Int) (n14 : Int) (n15 : Int),Stream_Happening_j1 p1x0 v2 v3 l5 n6 q7 q8 n9 q10 q11 q12 n13 n14 n15 = some r ∧ σ' = ⟨104,[(0,.ptr b_0 0),(4,.ptr b1 0),(5,.ptr b4 0)],[(b_0,.cells [lE0 l5,I n6]),(b1,.cells [.str [],I (0 : Int),I (0 : Int),I (0 : Int),I (0 : Int),.str [],.str [],.str [],I (0 : Int),.str [],.str [],.str [],I (0 : Int),I (0 : Int),I (0 : Int),I (0 : Int)]),(b4,.cells [.str [],I (0 : Int),I (0 : Int),I p1x0,I v2.1,.str v3.1,.str q7,.str q8,I n9,.str q10,.str q11,.str q12,I n13,I n14,I n15,I (0 : Int)])]⟩) ?_ ?_
  · refine ATodo.cond_d J (fun hc=>?_) (fun hc=>?_)
    · exact have h := iteT hc h; tR<|rM J J<|n_buildSliceL (xs := ([([109,97] : Str),([109,97] : Str),([109,98] : Str)]).map AV.str) J J J J J J<|bndE h fun v16 e3 h=>t_call0 J (Stream_Some_c e3) (CoL.refl _) (.cons .p1 .nil) J J<|rM J J<|n_buildSliceL (xs := ([(1 : Int),(2 : Int),(3 : Int)]).map I) J J J J J J<|bndE h fun v17 e4 h=>t_call0 J (Stream_Pick_c e4) (CoL.refl _) (.cons .p0 .nil) J J<|rM J J<|n_buildSliceL (xs := ([([48,97] : Str),([48,98] : Str),([48,99] : Str)]).map AV.str) J J J J J J<|bndE h fun v18 e5 h=>t_call0 J (Stream_Some_c e5) (CoL.refl _) (.cons .p0 .nil) J J<|rF J J J<|n_store_ptr J J J J .p1 J J<|rF J J J<|n_store_ptr J J J J .p1 J J<|rF J J J<|n_store_ptr J J J J .p1 J J<|rN<|ATodo.stop<|ImpX.lq [0,1,0] ⟨v18.2.L,v18.2.at_,v16.1,[],v17.1,v18.1,[],[],(0 : Int),(0 : Int),(0 : Int),h,J⟩ J J
    · refine have h := iteF hc h; tSR<|ARun.qv (q_eql J J) J<|rA J J<|rN<|ATodo.cut (fun σ'=>∃ (l19 : List Int) (n20 : Int) (q21 : Str) (q22 : Str) (q23 : Str) (q24 : Str) (n25 : Int) (n26 : Int) (n27 : Int),Stream_Happening_j2 p1x0 v2 v3 l19 n20 q21 q22 q23 q24 n25 n26 n27 = some r ∧ σ' = ⟨104,[(0,.ptr b_0 0),(4,.ptr b1 0),(5,.ptr b4 0)],[(b_0,.cells [lE0 l19,I n20]),(b1,.cells [.str [],I (0 : Int),I (0 : Int),I (0 : Int),I (0 : Int),.str [],.str [],.str [],I (0 : Int),.str [],.str [],.str [],I (0 : Int),I (0 : Int),I (0 : Int),I (0 : Int)]),(b4,.cells [.str [],I (0 : Int),I (0 : Int),I p1x0,I v2.1,.str v3.1,.str [],.str q21,I (0 : Int),.str q22,.str q23,.str q24,I n25,I n26,I n27,I (0 : Int)])]⟩) ?_ ?_
      · refine ATodo.cond_d J (fun hc=>?_) (fun hc=>?_)
        · exact have h := iteT hc h; tR<|rM J J<|n_buildSliceL (xs := ([([116,97] : Str),([116,97] : Str),([116,98] : Str),([116,99] : Str)]).map AV.str) J J J J J J<|bndE h fun v28 e6 h=>t_call0 J (Stream_Some_c e6) (CoL.refl _) (.cons .p1 .nil) J J<|rF J J J<|n_store_ptr J J J J .p1 J J<|rN<|ATodo.stop<|ImpX.lq [0,1,0] ⟨v28.2.L,v28.2.at_,v28.1,[],[],[],(0 : Int),(0 : Int),(0 : Int),h,J⟩ J J
        · refine have h := iteF hc h; tSR<|ARun.qv (q_eql J J) J<|rA J J<|rN<|ATodo.cut (fun σ'=>∃ (l29 : List Int) (n30 : Int) (q31 : Str) (q32 : Str) (q33 : Str) (n34 : Int) (n35 : Int) (n36 : Int),Stream_Happening_j3 p1x0 v2 v3 l29 n30 q31 q32 q33 n34 n35 n36 = some r ∧ σ' = ⟨104,[(0,.ptr b_0 0),(4,.ptr b1 0),(5,.ptr b4 0)],[(b_0,.cells [lE0 l29,I n30]),(b1,.cells [.str [],I (0 : Int),I (0 : Int),I (0 : Int),I (0 : Int),.str [],.str [],.str [],I (0 : Int),.str [],.str [],.str [],I (0 : Int),I (0 : Int),I (0 : Int),I (0 : Int)]),(b4,.cells [.str [],I (0 : Int),I (0 : Int),I p1x0,I v2.1,.str v3.1,.str [],.str [],I (0 : Int),.str q31,.str q32,.str q33,I n34,I n35,I n36,I (0 : Int)])]⟩) ?_ ?_
          · refine ATodo.cond_d J (fun hc=>?_) (fun hc=>?_)
            · exact have h := iteT hc h; tR<|rM J J<|n_buildSliceL (xs := ([([48,97] : Str),([49,97] : Str),([49,98] : Str),([49,99] : Str)]).map AV.str) J J J J J J<|bndE h fun v37 e7 h=>t_call0 J (Stream_Some_c e7) (CoL.refl _) (.cons .p1 .nil) J J<|rM J J<|rM J J<|n_buildSliceL (xs := ([(0 : Int),(5 : Int),(50 : Int),(1000 : Int)]).map I) J J J J J J<|bndE h fun v38 e8 h=>t_call0 J (Stream_Pick_c e8) (CoL.refl _) (.cons .p0 .nil) J J<|ARun.qv (q_addw J J) J<|rF J J J<|n_store_ptr J J J J .p1 J J<|rF J J J<|n_store_ptr J J J J .p1 J J<|rN<|ATodo.stop<|ImpX.lq [0,1,0] ⟨v38.2.L,v38.2.at_,v37.1,[],[],w64 (p1x0 + v38.1),(0 : Int),(0 : Int),h,J⟩ J J
            · refine have h := iteF hc h; tSR<|ARun.qv (q_eql J J) J<|rA J J<|rN<|ATodo.cut (fun σ'=>∃ (l39 : List Int) (n40 : Int) (q41 : Str) (q42 : Str) (n43 : Int) (n44 : Int),Stream_Happening_j4 p1x0 v2 v3 l39 n40 q41 q42 n43 n44 = some r ∧ σ' = ⟨104,[(0,.ptr b_0 0),(4,.ptr b1 0),(5,.ptr b4 0)],[(b_0,.cells [lE0 l39,I n40]),(b1,.cells [.str [],I (0 : Int),I (0 : Int),I (0 : Int),I (0 : Int),.str [],.str [],.str [],I (0 : Int),.str [],.str [],.str [],I (0 : Int),I (0 : Int),I (0 : Int),I (0 : Int)]),(b4,.cells [.str [],I (0 : Int),I (0 : Int),I p1x0,I v2.1,.str v3.1,.str [],.str [],I (0 : Int),.str [],.str q41,.str q42,I (0 : Int),I n43,I n44,I (0 : Int)])]⟩) ?_ ?_
              · refine ATodo.cond_d J (fun hc=>?_) (fun hc=>?_)
                · exact have h := iteT hc h; tR<|rM J J<|n_buildSliceL (xs := ([(0 : Int),(1 : Int),(1 : Int)]).map I) J J J J J J<|bndE h fun v45 e9 h=>t_call0 J (Stream_Pick_c e9) (CoL.refl _) (.cons .p1 .nil) J J<|rM J J<|n_buildSliceL (xs := ([(0 : Int),(2 : Int)]).map I) J J J J J J<|bndE h fun v46 e10 h=>t_call0 J (Stream_Pick_c e10) (CoL.refl _) (.cons .p0 .nil) J J<|ARun.qv (n_build J J J J J) J<|rF J J J<|n_store_ptr J J J J .p1 J J<|rN<|ATodo.stop<|ImpX.lq [0,1,0] ⟨v46.2.L,v46.2.at_,[],[],v45.1,v46.1,h,J⟩ J J
                · refine have h := iteF hc h; tSR<|ARun.qv (q_eql J J) J<|rA J J<|rN<|ATodo.cut (fun σ'=>∃ (l47 : List Int) (n48 : Int) (q49 : Str) (q50 : Str),Stream_Happening_j5 p1x0 v2 v3 l47 n48 q49 q50 = some r ∧ σ' = ⟨104,[(0,.ptr b_0 0),(4,.ptr b1 0),(5,.ptr b4 0)],[(b_0,.cells [lE0 l47,I n48]),(b1,.cells [.str [],I (0 : Int),I (0 : Int),I (0 : Int),I (0 : Int),.str [],.str [],.str [],I (0 : Int),.str [],.str [],.str [],I (0 : Int),I (0 : Int),I (0 : Int),I (0 : Int)]),(b4,.cells [.str [],I (0 : Int),I (0 : Int),I p1x0,I v2.1,.str v3.1,.str [],.str [],I (0 : Int),.str [],.str q49,.str q50,I (0 : Int),I (0 : Int),I (0 : Int),I (0 : Int)])]⟩) ?_ ?_
                  · refine ATodo.cond_d J (fun hc=>?_) (fun hc=>?_)
                    · exact have h := iteT hc h; tR<|rM J J<|n_buildSliceL (xs := ([([115,105,116,101] : Str),([115,105,116,101] : Str),([111,112,101,110] : Str)]).map AV.str) J J J J J J<|bndE h fun v51 e11 h=>t_call0 J (Stream_Some_c e11) (CoL.refl _) (.cons .p1 .nil) J J<|rM J J<|n_buildSliceL (xs := ([([120] : Str),([121] : Str),([97,32,98] : Str),([] : Str)]).map AV.str) J J J J J J<|bndE h fun v52 e12 h=>t_call0 J (Stream_Some_c e12) (CoL.refl _) (.cons .p0 .nil) J J<|rF J J J<|n_store_ptr J J J J .p1 J J<|rF J J J<|n_store_ptr J J J J .p1 J J<|rN<|ATodo.stop<|ImpX.lq [0,1,0] ⟨v52.2.L,v52.2.at_,v51.1,v52.1,h,J⟩ J J
                    · exact have h := iteF hc h; tK<|ATodo.stop<|ImpX.lq [1,1,0] ⟨v3.2.L,v3.2.at_,[],[],h,J⟩ J J
                  · rintro σ' ⟨l47, n48, q49, q50, h, rfl⟩
                    unfold Stream_Happening_j5 at h
                    exact ATodo.stop<|ImpX.lq [0,0,0] ⟨l47,n48,q49,q50,(0 : Int),(0 : Int),h,J⟩ J J
              · rintro σ' ⟨l39, n40, q41, q42, n43, n44, h, rfl⟩
                unfold Stream_Happening_j4 at h
                exact ATodo.stop<|ImpX.lq [0,0,0] ⟨l39,n40,[],q41,q42,(0 : Int),n43,n44,h,J⟩ J J
          · rintro σ' ⟨l29, n30, q31, q32, q33, n34, n35, n36, h, rfl⟩
            unfold Stream_Happening_j3 at h
            exact ATodo.stop<|ImpX.lq [0,0,0] ⟨l29,n30,[],q31,q32,q33,n34,n35,n36,h,J⟩ J J
      · rintro σ' ⟨l19, n20, q21, q22, q23, q24, n25, n26, n27, h, rfl⟩
        unfold Stream_Happening_j2 at h
        exact ATodo.stop<|ImpX.lq [0,0,0] ⟨l19,n20,[],q21,(0 : Int),q22,q23,q24,n25,n26,n27,h,J⟩ J J
  · rintro σ' ⟨l5, n6, q7, q8, n9, q10, q11, q12, n13, n14, n15, h, rfl⟩
    unfold Stream_Happening_j1 at h
    refine ATodo.blk<|tS<|tSR<|rM J J<|bndE h fun v53 e13 h=>t_call0 J (Stream_Flip_c e13) (CoL.refl _) (.cons .p0 .nil) J J<|rN<|ATodo.cut (fun σ'=>∃ (l54 : List Int) (n55 : Int) (n56 : Int) (q57 : Str) (q58 : Str) (n59 : Int) (q60 : Str) (q61 : Str) (n62 : Int),Stream_Happening_j6 p1x0 q7 q11 n14 n15 l54 n55 n56 q57 q58 n59 q60 q61 n62 = some r ∧ σ' = ⟨104,[(4,.ptr b1 0),(5,.ptr b4 0)],[(b_0,.cells [lE0 l54,I n55]),(b1,.cells [.str [],I (0 : Int),I (0 : Int),I (0 : Int),I (0 : Int),.str [],.str [],.str [],I (0 : Int),.str [],.str [],.str [],I (0 : Int),I (0 : Int),I (0 : Int),I (0 : Int)]),(b4,.cells [.str [],I (0 : Int),I (0 : Int),I p1x0,I n56,.str q57,.str q7,.str q58,I n59,.str q60,.str q11,.str q61,I n62,I n14,I n15,I (0 : Int)])]⟩) ?_ ?_
    · refine ATodo.cond J (fun hc=>?_) (fun hc=>?_)
      · refine have h := iteT hc h; tSR<|rM J J<|bndE h fun v63 e14 h=>t_call0 J (Stream_Next_c e14) (CoL.refl _) (.cons .p0 .nil) J J<|rN<|ATodo.block<|tSR<|ARun.qv (q_eql J J) J<|rA J J<|rN<|ATodo.cut (fun σ'=>∃ (l64 : List Int) (n65 : Int) (n66 : Int) (q67 : Str) (q68 : Str) (n69 : Int) (q70 : Str) (q71 : Str) (n72 : Int),Stream_Happening_j7 p1x0 q7 q11 n14 n15 l64 n65 n66 q67 q68 n69 q70 q71 n72 = some r ∧ σ' = ⟨104,[(4,.ptr b1 0),(5,.ptr b4 0)],[(b_0,.cells [lE0 l64,I n65]),(b1,.cells [.str [],I (0 : Int),I (0 : Int),I (0 : Int),I (0 : Int),.str [],.str [],.str [],I (0 : Int),.str [],.str [],.str [],I (0 : Int),I (0 : Int),I (0 : Int),I (0 : Int)]),(b4,.cells [.str [],I (0 : Int),I (0 : Int),I p1x0,I n66,.str q67,.str q7,.str q68,I n69,.str q70,.str q11,.str q71,I n72,I n14,I n15,I (0 : Int)])]⟩) ?_ ?_
        · refine ATodo.cond_d J (fun hc=>?_) (fun hc=>?_)
          · exact have h := iteT hc h; tR<|rM J J<|bndE h fun v73 e15 h=>t_call0 J (Stream_Odd_c e15) (CoL.refl _) (.cons .p0 .nil) J J<|rF J J J<|n_store_ptr J J J J .p2 J J<|rN<|ATodo.stop<|ImpX.lq [0,0,0] ⟨v73.2.L,v73.2.at_,v73.1,v3.1,q8,n9,q10,q12,n13,h,J⟩ J J
          · refine have h := iteF hc h; tSR<|ARun.qv (q_eql J J) J<|rA J J<|rN<|ATodo.cut (fun σ'=>∃ (l74 : List Int) (n75 : Int) (q76 : Str) (q77 : Str) (n78 : Int) (q79 : Str) (q80 : Str) (n81 : Int),Stream_Happening_j8 p1x0 v2 q7 q11 n14 n15 l74 n75 q76 q77 n78 q79 q80 n81 = some r ∧ σ' = ⟨104,[(4,.ptr b1 0),(5,.ptr b4 0)],[(b_0,.cells [lE0 l74,I n75]),(b1,.cells [.str [],I (0 : Int),I (0 : Int),I (0 : Int),I (0 : Int),.str [],.str [],.str [],I (0 : Int),.str [],.str [],.str [],I (0 : Int),I (0 : Int),I (0 : Int),I (0 : Int)]),(b4,.cells [.str [],I (0 : Int),I (0 : Int),I p1x0,I v2.1,.str q76,.str q7,.str q77,I n78,.str q79,.str q11,.str q80,I n81,I n14,I n15,I (0 : Int)])]⟩) ?_ ?_
            · refine ATodo.cond_d J (fun hc=>?_) (fun hc=>?_)
              · exact have h := iteT hc h; tR<|rM J J<|n_buildSliceL (xs := ([([] : Str),([65] : Str),([100,97] : Str)]).map AV.str) J J J J J J<|bndE h fun v82 e16 h=>t_call0 J (Stream_Some_c e16) (CoL.refl _) (.cons .p0 .nil) J J<|rM J J<|n_buildSliceL (xs := ([([] : Str),([116] : Str)]).map AV.str) J J J J J J<|bndE h fun v83 e17 h=>t_call0 J (Stream_Some_c e17) (CoL.refl _) (.cons .p0 .nil) J J<|rF J J J<|n_store_ptr J J J J .p2 J J<|rF J J J<|n_store_ptr J J J J .p2 J J<|rN<|ATodo.stop<|ImpX.lq [0,0,0] ⟨v83.2.L,v83.2.at_,v82.1,v83.1,n9,q10,q12,n13,h,J⟩ J J
              · refine have h := iteF hc h; tSR<|ARun.qv (q_eql J J) J<|rA J J<|rN<|ATodo.cut (fun σ'=>∃ (l84 : List Int) (n85 : Int) (n86 : Int) (q87 : Str) (q88 : Str) (n89 : Int),Stream_Happening_j9 p1x0 v2 v3 q7 q8 q11 n14 n15 l84 n85 n86 q87 q88 n89 = some r ∧ σ' = ⟨104,[(4,.ptr b1 0),(5,.ptr b4 0)],[(b_0,.cells [lE0 l84,I n85]),(b1,.cells [.str [],I (0 : Int),I (0 : Int),I (0 : Int),I (0 : Int),.str [],.str [],.str [],I (0 : Int),.str [],.str [],.str [],I (0 : Int),I (0 : Int),I (0 : Int),I (0 : Int)]),(b4,.cells [.str [],I (0 : Int),I (0 : Int),I p1x0,I v2.1,.str v3.1,.str q7,.str q8,I n86,.str q87,.str q11,.str q88,I n89,I n14,I n15,I (0 : Int)])]⟩) ?_ ?_
                · refine ATodo.cond_d J (fun hc=>?_) (fun hc=>?_)
                  · exact have h := iteT hc h; tR<|rM J J<|bndE h fun v90 e18 h=>t_call0 J (Stream_Odd_c e18) (CoL.refl _) (.cons .p0 .nil) J J<|rM J J<|bndE h fun v91 e19 h=>t_call0 J (Stream_Odd_c e19) (CoL.refl _) (.cons .p0 .nil) J J<|rF J J J<|n_store_ptr J J J J .p2 J J<|rF J J J<|n_store_ptr J J J J .p2 J J<|rN<|ATodo.stop<|ImpX.lq [0,0,0] ⟨v91.2.L,v91.2.at_,v90.1,q10,q12,v91.1,h,J⟩ J J
                  · exact have h := iteF hc h; tR<|rM J J<|n_buildSliceL (xs := ([([] : Str),([71] : Str),([48,97] : Str)]).map AV.str) J J J J J J<|bndE h fun v92 e20 h=>t_call0 J (Stream_Some_c e20) (CoL.refl _) (.cons .p0 .nil) J J<|rM J J<|n_buildSliceL (xs := ([([] : Str),([32,120] : Str),([120] : Str)]).map AV.str) J J J J J J<|bndE h fun v93 e21 h=>t_call0 J (Stream_Some_c e21) (CoL.refl _) (.cons .p0 .nil) J J<|rF J J J<|n_store_ptr J J J J .p2 J J<|rF J J J<|n_store_ptr J J J J .p2 J J<|rN<|ATodo.stop<|ImpX.lq [0,0,0] ⟨v93.2.L,v93.2.at_,n9,v92.1,v93.1,n13,h,J⟩ J J
                · rintro σ' ⟨l84, n85, n86, q87, q88, n89, h, rfl⟩
                  unfold Stream_Happening_j9 at h
                  exact ATodo.stop<|ImpX.lq [0,0,0] ⟨l84,n85,v3.1,q8,n86,q87,q88,n89,h,J⟩ J J
            · rintro σ' ⟨l74, n75, q76, q77, n78, q79, q80, n81, h, rfl⟩
              unfold Stream_Happening_j8 at h
              exact ATodo.stop<|ImpX.lq [0,0,0] ⟨l74,n75,v2.1,q76,q77,n78,q79,q80,n81,h,J⟩ J J
        · rintro σ' ⟨l64, n65, n66, q67, q68, n69, q70, q71, n72, h, rfl⟩
          unfold Stream_Happening_j7 at h
          exact ATodo.blk<|ATodo.stop<|ImpX.lq [0,0,0] ⟨l64,n65,n66,q67,q68,n69,q70,q71,n72,h,J⟩ J J
      · exact have h := iteFb hc h; tK<|ATodo.stop<|ImpX.lq [0,0,0] ⟨v53.2.L,v53.2.at_,v2.1,v3.1,q8,n9,q10,q12,n13,h,J⟩ J J
    · rintro σ' ⟨l54, n55, n56, q57, q58, n59, q60, q61, n62, h, rfl⟩
      unfold Stream_Happening_j6 at h
      refine tSR<|ARun.qv (q_load_ptr_all J J .p2 J) J<|n_store_ptr J J J J .p1 J J<|rN<|ATodo.ret<|?_
      obtain rfl := Option.some.inj h
      exact ImpX.here ⟨_,.cons (.all _ _ _ _ _ _ J .p1 TUnder.h TInfo.h J J) .nil,_,.cons .p0 .nil,⟨J,J⟩⟩

theorem cmp_isNaN_int_c [GI : GTab] {p0x0 : Int} {r : Bool} (h : cmp_isNaN_int p0x0 = r) : Pu Tryz.prog 182 [I p0x0] (.bool r) := by
  unfold cmp_isNaN_int at h
  refine ACall.bodyN Tryz.func182 J Tryz.ntmps182 Tryz.results182 J J ?_
  refine tSR<|rA J J<|rN<|tSR<|rM J J<|rM J J<|ARun.qv (q_neq J J) J<|rA J J<|rN<|ATodo.ret<|?_
  obtain rfl := h
  exact ImpX.here ⟨_,.cons (.tmp _ _ J) .nil,J⟩

theorem cmp_Compare_int_c [GI : GTab] {p0x0 : Int} {p1x0 : Int} {r : Int} (h : cmp_Compare_int p0x0 p1x0 = r) : Pu Tryz.prog 121 [I p0x0,I p1x0] (I r) := by
  unfold cmp_Compare_int at h
  refine ACall.bodyN Tryz.func121 J Tryz.ntmps121 Tryz.results121 J J ?_
  refine tSR<|rA J J<|rN<|tSR<|rM J J<|r_callp J (cmp_isNaN_int_c J) (CoL.refl _) J<|rA J J<|rN<|tSR<|rM J J<|r_callp J (cmp_isNaN_int_c J) (CoL.refl _) J<|rA J J<|rN<|tS<|tSR<|rM J J<|rN<|ATodo.cond J (fun hc=>?_) (fun hc=>?_)
  · refine have h := iteT hc h; tS<|tSR<|rM J J<|rN<|ATodo.cond J (fun hc=>?_) (fun hc=>?_)
    · refine have h := iteT hc h; tSR<|rA J J<|rN<|ATodo.ret<|?_
      obtain rfl := h
      exact ImpX.here ⟨_,.cons (.tmp _ _ J) .nil,J⟩
    · refine have h := iteFb hc h; tK<|tSR<|rA J J<|rN<|ATodo.ret<|?_
      obtain rfl := h
      exact ImpX.here ⟨_,.cons (.tmp _ _ J) .nil,J⟩
  · refine have h := iteFb hc h; tK<|tS<|tSR<|rM J J<|rN<|ATodo.cond J (fun hc=>?_) (fun hc=>?_)
    · refine have h := iteT hc h; tSR<|rA J J<|rN<|ATodo.ret<|?_
      obtain rfl := h
      exact ImpX.here ⟨_,.cons (.tmp _ _ J) .nil,J⟩
    · refine have h := iteFb hc h; tK<|tS<|tSR<|rM J J<|rM J J<|ARun.qv (q_lss J J) J<|rN<|ATodo.cond_d J (fun hc=>?_) (fun hc=>?_)
      · refine have h := iteT hc h; tSR<|rA J J<|rN<|ATodo.ret<|?_
        obtain rfl := h
        exact ImpX.here ⟨_,.cons (.tmp _ _ J) .nil,J⟩
      · refine have h := iteF hc h; tK<|tS<|tSR<|rM J J<|rM J J<|ARun.qv (q_gtr J J) J<|rN<|ATodo.cond_d J (fun hc=>?_) (fun hc=>?_)
        · refine have h := iteT hc h; tSR<|rA J J<|rN<|ATodo.ret<|?_
          obtain rfl := h
          exact ImpX.here ⟨_,.cons (.tmp _ _ J) .nil,J⟩
        · refine have h := iteF hc h; tK<|tSR<|rA J J<|rN<|ATodo.ret<|?_
          obtain rfl := h
          exact ImpX.here ⟨_,.cons (.tmp _ _ J) .nil,J⟩

theorem cmp_Or_int_c [GI : GTab] {p0x0 : List Int} {r : Int} (h : cmp_Or_int p0x0 = some r) : Pu Tryz.prog 120 [lE0 p0x0] (I r) := by
  unfold cmp_Or_int at h
  refine ACall.bodyN Tryz.func120 J Tryz.ntmps120 Tryz.results120 J J ?_
  refine tSR<|rA J J<|rN<|tSR<|rA J J<|rN<|tS<|tSR<|rM J J<|ARun.qv (t_len J) J<|rM J J<|rN<|ATodo.block<|ATodo.loopI (fun x : Int=>cmp_Or_int_b1 p0x0 x) (fun x σ'=>σ' = ⟨18,[(3,I (0 : Int)),(6,lE0 p0x0),(7,I (p0x0.length : Int)),(8,I x)],[]⟩) h ?_ ?_
  · exact ImpX.lq [] J J J
  · intro n2 z1 σ' J1 hmk h hJ1 hA1
    obtain rfl := hmk
    replace h : cmp_Or_int_b1 p0x0 n2 = some z1 := h
    unfold cmp_Or_int_b1 at h
    refine tSR<|ARun.qv (q_lss J J) J<|rN<|tS<|ATodo.cond_d J (fun hc=>?_) (fun hc=>?_)
    · refine have h := iteT hc h; tK<|tS<|ATodo.block<|tSR<|bndE h fun v3 e1 h=>ARun.qv (t_index J J J e1 J J) J<|ARun.qv (q_load_rptr J J J) J<|rA J J<|rN<|tSR<|rM J J<|rM J J<|ARun.qv (q_neq J J) J<|rN<|ATodo.cond_d J (fun hc=>?_) (fun hc=>?_)
      · refine have h := iteT hc h; tSR<|rM J J<|rA J J<|rN<|ATodo.ret<|have h := outL h hA1; ?_
        obtain rfl := Option.some.inj h
        exact ImpX.here ⟨_,.cons (.tmp _ _ J) .nil,J⟩
      · refine have h := iteF hc h; tK<|ATodo.blk<|tR<|ARun.qv (q_addw J J) J<|rM J J<|rN<|ATodo.stop<|?_
        obtain rfl := Option.some.inj h
        exact hJ1 _ _ J<|ImpX.lq [] J J J
    · refine have h := iteF hc h; ATodo.exit J<|have h := outL h hA1; tSR<|rM J J<|rA J J<|rN<|ATodo.ret<|?_
      obtain rfl := Option.some.inj h
      exact ImpX.here ⟨_,.cons (.tmp _ _ J) .nil,J⟩

theorem Q_EventOrder_c [GI : GTab] {p0x0 : EventS} {p1x0 : EventS} {r : Int} (h : Q_EventOrder p0x0 p1x0 = some r) : Pu Tryz.prog 60 [EventS.av p0x0,EventS.av p1x0] (I r) := by
  unfold Q_EventOrder at h
  refine ACall.bodyN Tryz.func60 J Tryz.ntmps60 Tryz.results60 J J ?_
  refine tSR<|n_box J J J J fun b1=>n_box J J J J fun b2=>rA J J<|rN<|tS<|ATodo.regionM (id := 1) (A := [0,1,0,4,15,0,32,0,128,511,0,1024,0,4096,16383,32767,65535,131071]) 18 mixed J (by kernel_rfl) (by kernel_rfl)<|AM.qv (n_field_ptr J J) J<|AM.qv (q_load_ptr J J .p1 J) J<|AM.qv (n_field_ptr J J) J<|AM.qv (q_load_ptr J J .p0 J) J<|AM.callp J (cmp_Compare_int_c J) (CoL.refl _) J<|AM.qv (n_field_ptr J J) J<|AM.qv (q_load_ptr J J .p1 J) J<|AM.qv (n_field_ptr J J) J<|AM.qv (q_load_ptr J J .p0 J) J<|AM.callp J (strings_Compare_c J) (CoL.refl _) J<|AM.qv (n_field_ptr J J) J<|AM.qv (q_load_ptr J J .p1 J) J<|AM.qv (n_field_ptr J J) J<|AM.qv (q_load_ptr J J .p0 J) J<|AM.callp J (cmp_Compare_int_c J) (CoL.refl _) J<|AM.buildSliceL (xs := ([(cmp_Compare_int p0x0.Clock p1x0.Clock),(Lib.compareBytes p0x0.Hub p1x0.Hub),(cmp_Compare_int p0x0.No p1x0.No)] : List Int).map I) J J J J J J<|bndE h fun v3 e1 h=>AM.callp J (cmp_Or_int_c e1) (CoL.refl _) J<|AM.qv (q_assign J) J<|AM.nil<|rN<|ATodo.ret<|?_
  obtain rfl := Option.some.inj h
  exact ImpX.here ⟨_,.cons (.tmp _ _ J) .nil,J⟩

theorem slices_insertionSortCmpFunc_Event_c [GI : GTab] {b_0 : Bk} {p0x0 : List EventS} {p1x0 : Int} {p2x0 : Int} {fnd : EventS → EventS → Option Int} {fnd_F : FuncId} [IsFn Tryz.prog fnd_F] {fnd_C : List AV} (fnd_h : ∀ {y0 y1 : _} {u : Int},fnd y0 y1 = some u → Pu Tryz.prog fnd_F (EventS.av y0 :: EventS.av y1 ::  fnd_C) (I u)) {r : (List EventS)} (h : slices_insertionSortCmpFunc_Event p0x0 p1x0 p2x0 fnd = some r) : ACall Tryz.prog 180 [.sl 16 b_0 0 p0x0.length,I p1x0,I p2x0,.func (.func fnd_F) fnd_C] [(b_0,aE4 p0x0)] (T0 ([(b_0,aE4 r)]) (.tup [])) := by
  unfold slices_insertionSortCmpFunc_Event at h
  refine ACall.lessH ?_
  refine ACall.bodyN Tryz.func180 J Tryz.ntmps180 Tryz.results180 J J ?_
  refine tSR<|rM J J<|ARun.qv (q_addw J J) J<|rA J J<|rN<|ATodo.block<|ATodo.loopI (fun x : (List EventS) × Int=>slices_insertionSortCmpFunc_Event_b1 p1x0 p2x0 fnd x.1 x.2) (fun x σ'=>σ' = ⟨53,[(0,.sl 16 b_0 0 x.1.length),(1,I p1x0),(2,I p2x0),(3,.func (.func fnd_F) fnd_C),(8,I x.2)],[(b_0,aE4 x.1)]⟩) h ?_ ?_
  · exact ImpX.lq [0] J J J
  · intro x z1 σ' J1 hmk h hJ1 hA1
    obtain ⟨l3, n4⟩ := x
    obtain rfl := hmk
    replace h : slices_insertionSortCmpFunc_Event_b1 p1x0 p2x0 fnd l3 n4 = some z1 := h
    unfold slices_insertionSortCmpFunc_Event_b1 at h
    refine tS<|tSR<|rM J J<|rM J J<|ARun.qv (q_lss J J) J<|rN<|ATodo.cond_d J (fun hc=>?_) (fun hc=>?_)
    · refine have h := iteT hc h; tK<|tS<|ATodo.block<|tSR<|rM J J<|rA J J<|rN<|ATodo.block<|ATodo.loopI (fun x : (List EventS) × Int=>slices_insertionSortCmpFunc_Event_b2 p1x0 fnd n4 x.1 x.2) (fun x σ'=>σ' = ⟨53,[(0,.sl 16 b_0 0 x.1.length),(1,I p1x0),(2,I p2x0),(3,.func (.func fnd_F) fnd_C),(8,I n4),(9,I x.2)],[(b_0,aE4 x.1)]⟩) h ?_ ?_
      · exact ImpX.lq [0] J J J
      · intro x z2 σ' J2 hmk h hJ2 hA2
        obtain ⟨l7, n8⟩ := x
        obtain rfl := hmk
        replace h : slices_insertionSortCmpFunc_Event_b2 p1x0 fnd n4 l7 n8 = some z2 := h
        unfold slices_insertionSortCmpFunc_Event_b2 at h
        refine tS<|tS<|ATodo.cut (fun σ'=>∃ (c9 : Bool),slices_insertionSortCmpFunc_Event_j1 n4 l7 n8 c9 = some z2 ∧ σ' = ⟨53,[(0,.sl 16 b_0 0 l7.length),(1,I p1x0),(2,I p2x0),(3,.func (.func fnd_F) fnd_C),(8,I n4),(9,I n8),(34,.bool c9)],[(b_0,aE4 l7)]⟩) ?_ ?_
        · refine ATodo.regionM (id := 4) (A := [0,0,3,7,15,15,15,111,239,15,15,1039,3599,7695,16383,32767,65535]) 17 mixed J (by kernel_rfl) (by kernel_rfl)<|AM.qv (q_move J) J<|AM.qv (q_move J) J<|AM.qv (q_gtr J J) J<|AM.qv (q_move J) J<|AM.guard_dt J J J (fun hc=>?_) (fun hc=>?_)
          · exact have h := iteT hc h; AM.qv (q_move J) J<|AM.guard_yes J J J<|AM.qv (q_move J) J<|AM.guard_yes J J J<|AM.qv (q_move J) J<|AM.guard_yes J J J<|bndE h fun v10 e1 h=>AM.qv (t_index_sl J J J e1) J<|AM.guard_yes J J J<|AM.qv (t_load_aptr_agg (g := EventS.av) J J (.inl .p0) J e1 J) J<|AM.guard_yes J J J<|AM.qv (q_move J) J<|AM.guard_yes J J J<|AM.qv (q_move J) J<|AM.guard_yes J J J<|AM.qv (q_subw J J) J<|AM.guard_yes J J J<|bndE h fun v11 e2 h=>AM.qv (t_index_sl J J J e2) J<|AM.guard_yes J J J<|AM.qv (t_load_aptr_agg (g := EventS.av) J J (.inl .p0) J e2 J) J<|AM.guard_yes J J J<|bndE h fun v12 e3 h=>AM.callvp J J (fnd_h e3) (CoL.refl _) J<|AM.guard_yes J J J<|AM.qv (q_lss J J) J<|AM.qv (q_pick_t J J) J<|AM.nil<|rN<|ATodo.stop<|ImpX.lq [0] ⟨decide (v12 < (0 : Int)),h,J⟩ J J
          · exact have h := iteF hc h; AM.guard_no J J J J<|AM.guard_no J J J J<|AM.guard_no J J J J<|AM.guard_no J J J J<|AM.guard_no J J J J<|AM.guard_no J J J J<|AM.guard_no J J J J<|AM.guard_no J J J J<|AM.guard_no J J J J<|AM.guard_no J J J J<|AM.guard_no J J J J<|AM.qv (q_pick_f J J) J<|AM.nil<|rN<|ATodo.stop<|ImpX.lq [0] ⟨false,h,J⟩ J J
        · rintro σ' ⟨c9, h, rfl⟩
          unfold slices_insertionSortCmpFunc_Event_j1 at h
          refine ATodo.cond J (fun hc=>?_) (fun hc=>?_)
          · refine have h := iteT hc h; tK<|tS<|ATodo.block<|bndE h fun v13 e4 h=>bndE h fun v14 e5 h=>bndE h fun v15 e6 h=>ATodo.regionT (id := 6) (A := [0,0,0,0,8,0,0,64,224,480,0,0,3072,7168,16355,32739,65535,131071]) (H0 := [(b_0,aE4 l7)]) (HH := fun β=>[(b_0,aE4 (l7.set n8.toNat v13))]) 16 mixed J (by kernel_rfl) (by kernel_rfl) [⟨none,some 15,[9,13],fun _=>(b_0,aE4 l7),none,[]⟩,⟨some 15,none,[],fun _=>(b_0,aE4 (l7.set n8.toNat v13)),none,[]⟩] [] J (by kernel_rfl) J (.cons .p0 .nil) (fun _=>J)<|AT.am 9 J J<|AM.qv (q_move J) J<|AM.qv (q_move J) J<|AM.qv (q_move J) J<|AM.qv (q_move J) J<|AM.qv (q_subw J J) J<|AM.qv (q_move J) J<|AM.qv (q_move J) J<|AM.qv (q_subw J J) J<|AM.qv (t_index_sl J J J e4) J<|AM.nil<|AT.rd (Rs := [(b_0,aE4 l7)]) (fun _=>J) J (fun _=>J) (fun _=>J) (t_load_aptr_agg (g := EventS.av) J J (.inl .p0) J e4 J) J<|AT.am 3 J J<|AM.qv (q_move J) J<|AM.qv (q_move J) J<|AM.qv (t_index_sl J J J e5) J<|AM.nil<|AT.rd (Rs := [(b_0,aE4 l7)]) (fun _=>J) J (fun _=>J) (fun _=>J) (t_load_aptr_agg (g := EventS.av) J J (.inl .p0) J e5 J) J<|AT.am 1 J J<|AM.qv (t_index_sl J J J e6) J<|AM.nil<|AT.run0 (Ti := [(b_0,aE4 l7)]) (Pi := [(b_0,aE4 (l7.set n8.toNat v13))]) (fun _=>J) (fun _=>J) (fun _=>J) J J ?_ ?_
            · exact t_store_aptr1 (g := EventS.av) (el' := v13) J J J J e6 J .p0 J<|ARun.nil ⟨_,J⟩
            refine AT.nilN (fun _=>J) fun β=>ARun.ghost<|ImpX.eqs (s := 0) (av' := .sl 16 b_0 0 (l7.set n8.toNat v13).length) J (by simp)<|ImpX.here<|ARun.ghost<|ImpX.eqs (s := 37) (av' := .sl 16 b_0 0 (l7.set n8.toNat v13).length) J (by simp)<|ImpX.here<|ARun.ghost<|ImpX.eqs (s := 39) (av' := .sl 16 b_0 0 (l7.set n8.toNat v13).length) J (by simp)<|ImpX.here<|ARun.ghost<|ImpX.eqs (s := 42) (av' := .sl 16 b_0 0 (l7.set n8.toNat v13).length) J (by simp)<|ImpX.here<|ARun.ghost<|ImpX.eqs (s := 47) (av' := .sl 16 b_0 0 (l7.set n8.toNat v13).length) J (by simp)<|ImpX.here<|bndE h fun v16 e7 h=>ARun.qv (t_index_sl J J J e7) J<|t_store_aptr1 (g := EventS.av) (el' := v14) J J J J e7 J .p0 J<|ARun.ghost<|ImpX.eqs (s := 0) (av' := .sl 16 b_0 0 ((l7.set n8.toNat v13).set (w64 (n8 - (1 : Int))).toNat v14).length) J (by rw [List.length_set])<|ImpX.here<|ARun.ghost<|ImpX.eqs (s := 37) (av' := .sl 16 b_0 0 ((l7.set n8.toNat v13).set (w64 (n8 - (1 : Int))).toNat v14).length) J (by rw [List.length_set])<|ImpX.here<|ARun.ghost<|ImpX.eqs (s := 39) (av' := .sl 16 b_0 0 ((l7.set n8.toNat v13).set (w64 (n8 - (1 : Int))).toNat v14).length) J (by rw [List.length_set])<|ImpX.here<|ARun.ghost<|ImpX.eqs (s := 42) (av' := .sl 16 b_0 0 ((l7.set n8.toNat v13).set (w64 (n8 - (1 : Int))).toNat v14).length) J (by rw [List.length_set])<|ImpX.here<|ARun.ghost<|ImpX.eqs (s := 47) (av' := .sl 16 b_0 0 ((l7.set n8.toNat v13).set (w64 (n8 - (1 : Int))).toNat v14).length) J (by rw [List.length_set])<|ImpX.here<|rN<|ATodo.blk<|tR<|rM J J<|ARun.qv (q_subw J J) J<|rA J J<|rN<|ATodo.stop<|?_
            obtain rfl := Option.some.inj h
            exact hJ2 _ _ J<|ImpX.lq [0] J J J
          · refine have h := iteFb hc h; ATodo.exit J<|have h := outL h hA2; ATodo.blk<|tR<|rM J J<|ARun.qv (q_addw J J) J<|rA J J<|rN<|ATodo.stop<|?_
            obtain rfl := Option.some.inj h
            exact hJ1 _ _ J<|ImpX.lq [0] J J J
    · refine have h := iteF hc h; ATodo.exit J<|have h := outL h hA1; ATodo.nil<|?_
      obtain rfl := Option.some.inj h
      exact ImpX.here ⟨_,.nil,_,.cons .p0 .nil,⟨J,J⟩⟩

theorem slices_swapRangeCmpFunc_Event_c [GI : GTab] {b_0 : Bk} {p0x0 : List EventS} {p1x0 : Int} {p2x0 : Int} {p3x0 : Int} {fne : EventS → EventS → Option Int} {fne_F : FuncId} [IsFn Tryz.prog fne_F] {fne_C : List AV} (fne_h : ∀ {y0 y1 : _} {u : Int},fne y0 y1 = some u → Pu Tryz.prog fne_F (EventS.av y0 :: EventS.av y1 ::  fne_C) (I u)) {r : (List EventS)} (h : slices_swapRangeCmpFunc_Event p0x0 p1x0 p2x0 p3x0 fne = some r) : ACall Tryz.prog 306 [.sl 16 b_0 0 p0x0.length,I p1x0,I p2x0,I p3x0,.func (.func fne_F) fne_C] [(b_0,aE4 p0x0)] (T0 ([(b_0,aE4 r)]) (.tup [])) := by
  unfold slices_swapRangeCmpFunc_Event at h
  refine ACall.lessH ?_
  refine ACall.bodyN Tryz.func306 J Tryz.ntmps306 Tryz.results306 J J ?_
  refine tSR<|rA J J<|rN<|ATodo.block<|ATodo.loopI (fun x : (List EventS) × Int=>slices_swapRangeCmpFunc_Event_b1 p1x0 p2x0 p3x0 x.1 x.2) (fun x σ'=>σ' = ⟨38,[(0,.sl 16 b_0 0 x.1.length),(1,I p1x0),(2,I p2x0),(3,I p3x0),(10,I x.2)],[(b_0,aE4 x.1)]⟩) h ?_ ?_
  · exact ImpX.lq [0] J J J
  · intro x z1 σ' J1 hmk h hJ1 hA1
    obtain ⟨l3, n4⟩ := x
    obtain rfl := hmk
    replace h : slices_swapRangeCmpFunc_Event_b1 p1x0 p2x0 p3x0 l3 n4 = some z1 := h
    unfold slices_swapRangeCmpFunc_Event_b1 at h
    refine tS<|tSR<|rM J J<|rM J J<|ARun.qv (q_lss J J) J<|rN<|ATodo.cond_d J (fun hc=>?_) (fun hc=>?_)
    · refine have h := iteT hc h; tK<|tS<|ATodo.block<|bndE h fun v5 e1 h=>bndE h fun v6 e2 h=>bndE h fun v7 e3 h=>ATodo.regionT (id := 3) (A := [0,0,0,6,0,0,0,96,0,0,0,1536,3840,7936,0,0,0,98304,245760,507904,1048335,2096911,4194303,8388607]) (H0 := [(b_0,aE4 l3)]) (HH := fun β=>[(b_0,aE4 (l3.set (w64 (p1x0 + n4)).toNat v5))]) 22 mixed J (by kernel_rfl) (by kernel_rfl) [⟨none,some 21,[13,19],fun _=>(b_0,aE4 l3),none,[]⟩,⟨some 21,none,[],fun _=>(b_0,aE4 (l3.set (w64 (p1x0 + n4)).toNat v5)),none,[]⟩] [] J (by kernel_rfl) J (.cons .p0 .nil) (fun _=>J)<|AT.am 13 J J<|AM.qv (q_move J) J<|AM.qv (q_move J) J<|AM.qv (q_move J) J<|AM.qv (q_addw J J) J<|AM.qv (q_move J) J<|AM.qv (q_move J) J<|AM.qv (q_move J) J<|AM.qv (q_addw J J) J<|AM.qv (q_move J) J<|AM.qv (q_move J) J<|AM.qv (q_move J) J<|AM.qv (q_addw J J) J<|AM.qv (t_index_sl J J J e1) J<|AM.nil<|AT.rd (Rs := [(b_0,aE4 l3)]) (fun _=>J) J (fun _=>J) (fun _=>J) (t_load_aptr_agg (g := EventS.av) J J (.inl .p0) J e1 J) J<|AT.am 5 J J<|AM.qv (q_move J) J<|AM.qv (q_move J) J<|AM.qv (q_move J) J<|AM.qv (q_addw J J) J<|AM.qv (t_index_sl J J J e2) J<|AM.nil<|AT.rd (Rs := [(b_0,aE4 l3)]) (fun _=>J) J (fun _=>J) (fun _=>J) (t_load_aptr_agg (g := EventS.av) J J (.inl .p0) J e2 J) J<|AT.am 1 J J<|AM.qv (t_index_sl J J J e3) J<|AM.nil<|AT.run0 (Ti := [(b_0,aE4 l3)]) (Pi := [(b_0,aE4 (l3.set (w64 (p1x0 + n4)).toNat v5))]) (fun _=>J) (fun _=>J) (fun _=>J) J J ?_ ?_
      · exact t_store_aptr1 (g := EventS.av) (el' := v5) J J J J e3 J .p0 J<|ARun.nil ⟨_,J⟩
      refine AT.nilN (fun _=>J) fun β=>ARun.ghost<|ImpX.eqs (s := 0) (av' := .sl 16 b_0 0 (l3.set (w64 (p1x0 + n4)).toNat v5).length) J (by simp)<|ImpX.here<|ARun.ghost<|ImpX.eqs (s := 16) (av' := .sl 16 b_0 0 (l3.set (w64 (p1x0 + n4)).toNat v5).length) J (by simp)<|ImpX.here<|ARun.ghost<|ImpX.eqs (s := 20) (av' := .sl 16 b_0 0 (l3.set (w64 (p1x0 + n4)).toNat v5).length) J (by simp)<|ImpX.here<|ARun.ghost<|ImpX.eqs (s := 24) (av' := .sl 16 b_0 0 (l3.set (w64 (p1x0 + n4)).toNat v5).length) J (by simp)<|ImpX.here<|ARun.ghost<|ImpX.eqs (s := 30) (av' := .sl 16 b_0 0 (l3.set (w64 (p1x0 + n4)).toNat v5).length) J (by simp)<|ImpX.here<|bndE h fun v8 e4 h=>ARun.qv (t_index_sl J J J e4) J<|t_store_aptr1 (g := EventS.av) (el' := v6) J J J J e4 J .p0 J<|ARun.ghost<|ImpX.eqs (s := 0) (av' := .sl 16 b_0 0 ((l3.set (w64 (p1x0 + n4)).toNat v5).set (w64 (p2x0 + n4)).toNat v6).length) J (by rw [List.length_set])<|ImpX.here<|ARun.ghost<|ImpX.eqs (s := 16) (av' := .sl 16 b_0 0 ((l3.set (w64 (p1x0 + n4)).toNat v5).set (w64 (p2x0 + n4)).toNat v6).length) J (by rw [List.length_set])<|ImpX.here<|ARun.ghost<|ImpX.eqs (s := 20) (av' := .sl 16 b_0 0 ((l3.set (w64 (p1x0 + n4)).toNat v5).set (w64 (p2x0 + n4)).toNat v6).length) J (by rw [List.length_set])<|ImpX.here<|ARun.ghost<|ImpX.eqs (s := 24) (av' := .sl 16 b_0 0 ((l3.set (w64 (p1x0 + n4)).toNat v5).set (w64 (p2x0 + n4)).toNat v6).length) J (by rw [List.length_set])<|ImpX.here<|ARun.ghost<|ImpX.eqs (s := 30) (av' := .sl 16 b_0 0 ((l3.set (w64 (p1x0 + n4)).toNat v5).set (w64 (p2x0 + n4)).toNat v6).length) J (by rw [List.length_set])<|ImpX.here<|rN<|ATodo.blk<|tR<|rM J J<|ARun.qv (q_addw J J) J<|rA J J<|rN<|ATodo.stop<|?_
      obtain rfl := Option.some.inj h
      exact hJ1 _ _ J<|ImpX.lq [0] J J J
    · refine have h := iteF hc h; ATodo.exit J<|have h := outL h hA1; ATodo.nil<|?_
      obtain rfl := Option.some.inj h
      exact ImpX.here ⟨_,.nil,_,.cons .p0 .nil,⟨J,J⟩⟩

theorem slices_rotateCmpFunc_Event_c [GI : GTab] {b_0 : Bk} {p0x0 : List EventS} {p1x0 : Int} {p2x0 : Int} {p3x0 : Int} {fne : EventS → EventS → Option Int} {fne_F : FuncId} [IsFn Tryz.prog fne_F] {fne_C : List AV} (fne_h : ∀ {y0 y1 : _} {u : Int},fne y0 y1 = some u → Pu Tryz.prog fne_F (EventS.av y0 :: EventS.av y1 ::  fne_C) (I u)) {r : (List EventS)} (h : slices_rotateCmpFunc_Event p0x0 p1x0 p2x0 p3x0 fne = some r) : ACall Tryz.prog 256 [.sl 16 b_0 0 p0x0.length,I p1x0,I p2x0,I p3x0,.func (.func fne_F) fne_C] [(b_0,aE4 p0x0)] (T0 ([(b_0,aE4 r)]) (.tup [])) := by
  unfold slices_rotateCmpFunc_Event at h
  refine ACall.lessH ?_
  refine ACall.bodyN Tryz.func256 J Tryz.ntmps256 Tryz.results256 J J ?_
  refine tSR<|rM J J<|rM J J<|ARun.qv (q_subw J J) J<|rA J J<|rN<|tSR<|rM J J<|rM J J<|ARun.qv (q_subw J J) J<|rA J J<|rN<|tS<|ATodo.block<|ATodo.loopI (fun x : (List EventS) × Int × Int=>slices_rotateCmpFunc_Event_b1 p2x0 fne x.1 x.2.1 x.2.2) (fun x σ'=>σ' = ⟨58,[(0,.sl 16 b_0 0 x.1.length),(2,I p2x0),(4,.func (.func fne_F) fne_C),(10,I x.2.1),(11,I x.2.2)],[(b_0,aE4 x.1)]⟩) h ?_ ?_
  · exact ImpX.lq [0] J J J
  · intro x z1 σ' J1 hmk h hJ1 hA1
    obtain ⟨l4, n5, n6⟩ := x
    obtain rfl := hmk
    replace h : slices_rotateCmpFunc_Event_b1 p2x0 fne l4 n5 n6 = some z1 := h
    unfold slices_rotateCmpFunc_Event_b1 at h
    refine tS<|tSR<|rM J J<|rM J J<|ARun.qv (q_neq J J) J<|rN<|ATodo.cond_d J (fun hc=>?_) (fun hc=>?_)
    · refine have h := iteT hc h; tK<|ATodo.block<|tSR<|rM J J<|rM J J<|ARun.qv (q_gtr J J) J<|rN<|ATodo.cut (fun σ'=>∃ (l7 : List EventS) (n8 : Int) (n9 : Int),slices_rotateCmpFunc_Event_j1 l7 n8 n9 = some z1 ∧ σ' = ⟨58,[(0,.sl 16 b_0 0 l7.length),(2,I p2x0),(4,.func (.func fne_F) fne_C),(10,I n8),(11,I n9)],[(b_0,aE4 l7)]⟩) ?_ ?_
      · refine ATodo.cond_d J (fun hc=>?_) (fun hc=>?_)
        · exact have h := iteT hc h; tSR<|rM J J<|rM J J<|rM J J<|ARun.qv (q_subw J J) J<|rM J J<|rM J J<|rM J J<|bndE h fun v10 e1 h=>t_call0 J (slices_swapRangeCmpFunc_Event_c fne_h (lenOk_f e1)) (CoL.refl _) (.cons .p0 .nil) J J<|ARun.ghost<|ImpX.eqs (s := 0) (av' := .sl 16 b_0 0 v10.length) J (congrArg (AV.sl 16 b_0 0) (lenOk_l e1))<|ImpX.here<|ARun.ghost<|ImpX.eqs (s := 24) (av' := .sl 16 b_0 0 v10.length) J (congrArg (AV.sl 16 b_0 0) (lenOk_l e1))<|ImpX.here<|rN<|tR<|rM J J<|rM J J<|ARun.qv (q_subw J J) J<|rA J J<|rN<|ATodo.stop<|ImpX.lq [0] ⟨v10,w64 (n5 - n6),n6,h,J⟩ J J
        · exact have h := iteF hc h; tSR<|rM J J<|rM J J<|rM J J<|ARun.qv (q_subw J J) J<|rM J J<|rM J J<|ARun.qv (q_addw J J) J<|rM J J<|ARun.qv (q_subw J J) J<|rM J J<|rM J J<|bndE h fun v11 e2 h=>t_call0 J (slices_swapRangeCmpFunc_Event_c fne_h (lenOk_f e2)) (CoL.refl _) (.cons .p0 .nil) J J<|ARun.ghost<|ImpX.eqs (s := 0) (av' := .sl 16 b_0 0 v11.length) J (congrArg (AV.sl 16 b_0 0) (lenOk_l e2))<|ImpX.here<|ARun.ghost<|ImpX.eqs (s := 35) (av' := .sl 16 b_0 0 v11.length) J (congrArg (AV.sl 16 b_0 0) (lenOk_l e2))<|ImpX.here<|rN<|tR<|rM J J<|rM J J<|ARun.qv (q_subw J J) J<|rA J J<|rN<|ATodo.stop<|ImpX.lq [0] ⟨v11,n5,w64 (n6 - n5),h,J⟩ J J
      · rintro σ' ⟨l7, n8, n9, h, rfl⟩
        unfold slices_rotateCmpFunc_Event_j1 at h
        refine ATodo.blk<|ATodo.stop<|?_
        obtain rfl := Option.some.inj h
        exact hJ1 _ _ J<|ImpX.lq [0] J J J
    · refine have h := iteF hc h; ATodo.exit J<|have h := outL h hA1; ?_
      unfold slices_rotateCmpFunc_Event_k2 at h
      refine tR<|rM J J<|rM J J<|rM J J<|ARun.qv (q_subw J J) J<|rM J J<|rM J J<|rM J J<|bndE h fun v12 e3 h=>t_call0 J (slices_swapRangeCmpFunc_Event_c fne_h (lenOk_f e3)) (CoL.refl _) (.cons .p0 .nil) J J<|ARun.ghost<|ImpX.eqs (s := 0) (av' := .sl 16 b_0 0 v12.length) J (congrArg (AV.sl 16 b_0 0) (lenOk_l e3))<|ImpX.here<|ARun.ghost<|ImpX.eqs (s := 50) (av' := .sl 16 b_0 0 v12.length) J (congrArg (AV.sl 16 b_0 0) (lenOk_l e3))<|ImpX.here<|rN<|ATodo.nil<|?_
      obtain rfl := Option.some.inj h
      exact ImpX.here ⟨_,.nil,_,.cons .p0 .nil,⟨J,J⟩⟩

theorem slices_symMergeCmpFunc_Event_bd_c [GI : GTab] {b_0 : Bk} {self : (List EventS) → Int → Int → Int → (EventS → EventS → Option Int) → Option (List EventS)} (self_h : ∀ {b_0 : Bk} {p0x0 : List EventS} {p1x0 : Int} {p2x0 : Int} {p3x0 : Int} {fne : EventS → EventS → Option Int} {fne_F : FuncId} [IsFn Tryz.prog fne_F] {fne_C : List AV} (fne_h : ∀ {y0 y1 : _} {u : Int},fne y0 y1 = some u → Pu Tryz.prog fne_F (EventS.av y0 :: EventS.av y1 ::  fne_C) (I u)) {r : (List EventS)},self p0x0 p1x0 p2x0 p3x0 fne = some r → ACall Tryz.prog 181 [.sl 16 b_0 0 p0x0.length,I p1x0,I p2x0,I p3x0,.func (.func fne_F) fne_C] [(b_0,aE4 p0x0)] (T0 ([(b_0,aE4 r)]) (.tup []))) {p0x0 : List EventS} {p1x0 : Int} {p2x0 : Int} {p3x0 : Int} {fne : EventS → EventS → Option Int} {fne_F : FuncId} [IsFn Tryz.prog fne_F] {fne_C : List AV} (fne_h : ∀ {y0 y1 : _} {u : Int},fne y0 y1 = some u → Pu Tryz.prog fne_F (EventS.av y0 :: EventS.av y1 ::  fne_C) (I u)) {r : (List EventS)} (h : slices_symMergeCmpFunc_Event_bd self p0x0 p1x0 p2x0 p3x0 fne = some r) : ACall Tryz.prog 181 [.sl 16 b_0 0 p0x0.length,I p1x0,I p2x0,I p3x0,.func (.func fne_F) fne_C] [(b_0,aE4 p0x0)] (T0 ([(b_0,aE4 r)]) (.tup [])) := by
  unfold slices_symMergeCmpFunc_Event_bd at h
  refine ACall.lessH ?_
  refine ACall.bodyN Tryz.func181 J Tryz.ntmps181 Tryz.results181 J J ?_
  refine tS<|tSR<|rM J J<|rM J J<|ARun.qv (q_subw J J) J<|ARun.qv (q_eql J J) J<|rN<|ATodo.cond_d J (fun hc=>?_) (fun hc=>?_)
  · refine have h := iteT hc h; tSR<|rM J J<|rA J J<|rN<|tSR<|rM J J<|rA J J<|rN<|tS<|ATodo.block<|ATodo.loopI (fun x : Int × Int=>slices_symMergeCmpFunc_Event_b1 p0x0 p1x0 fne x.1 x.2) (fun x σ'=>σ' = ⟨220,[(0,.sl 16 b_0 0 p0x0.length),(1,I p1x0),(4,.func (.func fne_F) fne_C),(10,I x.1),(11,I x.2)],[(b_0,aE4 p0x0)]⟩) h ?_ ?_
    · exact ImpX.lq [0] J J J
    · intro x z1 σ' J1 hmk h hJ1 hA1
      obtain ⟨n3, n4⟩ := x
      obtain rfl := hmk
      replace h : slices_symMergeCmpFunc_Event_b1 p0x0 p1x0 fne n3 n4 = some z1 := h
      unfold slices_symMergeCmpFunc_Event_b1 at h
      refine tS<|tSR<|rM J J<|rM J J<|ARun.qv (q_lss J J) J<|rN<|ATodo.cond_d J (fun hc=>?_) (fun hc=>?_)
      · refine have h := iteT hc h; tK<|ATodo.block<|tSR<|rM J J<|rM J J<|ARun.qv (q_addw J J) J<|ARun.qv (q_conv_int J) J<|ARun.qv (t_shr J J (by decide)) J<|ARun.qv (q_conv_int J) J<|rA J J<|rN<|tS<|ATodo.regionM (id := 5) (A := [0,0,0,6,14,0,0,96,224,511,1023]) 11 mixed J (by kernel_rfl) (by kernel_rfl)<|AM.qv (q_move J) J<|AM.qv (q_move J) J<|AM.qv (q_move J) J<|bndE h fun v5 e1 h=>AM.qv (t_index_sl J J J e1) J<|AM.qv (t_load_aptr_agg (g := EventS.av) J J (.inl .p0) J e1 J) J<|AM.qv (q_move J) J<|AM.qv (q_move J) J<|bndE h fun v6 e2 h=>AM.qv (t_index_sl J J J e2) J<|AM.qv (t_load_aptr_agg (g := EventS.av) J J (.inl .p0) J e2 J) J<|bndE h fun v7 e3 h=>AM.callvp J J (fne_h e3) (CoL.refl _) J<|AM.qv (q_lss J J) J<|AM.nil<|rN<|ATodo.cut (fun σ'=>∃ (n8 : Int) (n9 : Int),slices_symMergeCmpFunc_Event_j1 n8 n9 = some z1 ∧ σ' = ⟨220,[(0,.sl 16 b_0 0 p0x0.length),(1,I p1x0),(4,.func (.func fne_F) fne_C),(10,I n8),(11,I n9)],[(b_0,aE4 p0x0)]⟩) ?_ ?_
        · refine ATodo.cond_d J (fun hc=>?_) (fun hc=>?_)
          · exact have h := iteT hc h; tR<|rM J J<|ARun.qv (q_addw J J) J<|rA J J<|rN<|ATodo.stop<|ImpX.lq [0] ⟨w64 ((w64 (shrI .u64 (IntKind.u64.wrap (w64 (n3 + n4))) (1 : Int))) + (1 : Int)),n4,h,J⟩ J J
          · exact have h := iteF hc h; tR<|rM J J<|rA J J<|rN<|ATodo.stop<|ImpX.lq [0] ⟨n3,w64 (shrI .u64 (IntKind.u64.wrap (w64 (n3 + n4))) (1 : Int)),h,J⟩ J J
        · rintro σ' ⟨n8, n9, h, rfl⟩
          unfold slices_symMergeCmpFunc_Event_j1 at h
          refine ATodo.blk<|ATodo.stop<|?_
          obtain rfl := Option.some.inj h
          exact hJ1 _ _ J<|ImpX.lq [0] J J J
      · refine have h := iteF hc h; ATodo.exit J<|have h := outL h hA1; tS<|tSR<|rM J J<|rA J J<|rN<|ATodo.block<|ATodo.loopI (fun x : (List EventS) × Int=>slices_symMergeCmpFunc_Event_b2 n3 x.1 x.2) (fun x σ'=>σ' = ⟨220,[(0,.sl 16 b_0 0 x.1.length),(10,I n3),(13,I x.2)],[(b_0,aE4 x.1)]⟩) h ?_ ?_
        · exact ImpX.lq [0] J J J
        · intro x z2 σ' J2 hmk h hJ2 hA2
          obtain ⟨l12, n13⟩ := x
          obtain rfl := hmk
          replace h : slices_symMergeCmpFunc_Event_b2 n3 l12 n13 = some z2 := h
          unfold slices_symMergeCmpFunc_Event_b2 at h
          refine tS<|tSR<|rM J J<|rM J J<|ARun.qv (q_subw J J) J<|ARun.qv (q_lss J J) J<|rN<|ATodo.cond_d J (fun hc=>?_) (fun hc=>?_)
          · refine have h := iteT hc h; tK<|tS<|ATodo.block<|bndE h fun v14 e4 h=>bndE h fun v15 e5 h=>bndE h fun v16 e6 h=>ATodo.regionT (id := 11) (A := [0,0,0,0,8,0,0,64,224,480,0,0,3072,7168,16355,32739,65535,131071]) (H0 := [(b_0,aE4 l12)]) (HH := fun β=>[(b_0,aE4 (l12.set n13.toNat v14))]) 16 mixed J (by kernel_rfl) (by kernel_rfl) [⟨none,some 15,[9,13],fun _=>(b_0,aE4 l12),none,[]⟩,⟨some 15,none,[],fun _=>(b_0,aE4 (l12.set n13.toNat v14)),none,[]⟩] [] J (by kernel_rfl) J (.cons .p0 .nil) (fun _=>J)<|AT.am 9 J J<|AM.qv (q_move J) J<|AM.qv (q_move J) J<|AM.qv (q_move J) J<|AM.qv (q_move J) J<|AM.qv (q_addw J J) J<|AM.qv (q_move J) J<|AM.qv (q_move J) J<|AM.qv (q_addw J J) J<|AM.qv (t_index_sl J J J e4) J<|AM.nil<|AT.rd (Rs := [(b_0,aE4 l12)]) (fun _=>J) J (fun _=>J) (fun _=>J) (t_load_aptr_agg (g := EventS.av) J J (.inl .p0) J e4 J) J<|AT.am 3 J J<|AM.qv (q_move J) J<|AM.qv (q_move J) J<|AM.qv (t_index_sl J J J e5) J<|AM.nil<|AT.rd (Rs := [(b_0,aE4 l12)]) (fun _=>J) J (fun _=>J) (fun _=>J) (t_load_aptr_agg (g := EventS.av) J J (.inl .p0) J e5 J) J<|AT.am 1 J J<|AM.qv (t_index_sl J J J e6) J<|AM.nil<|AT.run0 (Ti := [(b_0,aE4 l12)]) (Pi := [(b_0,aE4 (l12.set n13.toNat v14))]) (fun _=>J) (fun _=>J) (fun _=>J) J J ?_ ?_
            · exact t_store_aptr1 (g := EventS.av) (el' := v14) J J J J e6 J .p0 J<|ARun.nil ⟨_,J⟩
            refine AT.nilN (fun _=>J) fun β=>ARun.ghost<|ImpX.eqs (s := 0) (av' := .sl 16 b_0 0 (l12.set n13.toNat v14).length) J (by simp)<|ImpX.here<|ARun.ghost<|ImpX.eqs (s := 61) (av' := .sl 16 b_0 0 (l12.set n13.toNat v14).length) J (by simp)<|ImpX.here<|ARun.ghost<|ImpX.eqs (s := 63) (av' := .sl 16 b_0 0 (l12.set n13.toNat v14).length) J (by simp)<|ImpX.here<|ARun.ghost<|ImpX.eqs (s := 66) (av' := .sl 16 b_0 0 (l12.set n13.toNat v14).length) J (by simp)<|ImpX.here<|ARun.ghost<|ImpX.eqs (s := 71) (av' := .sl 16 b_0 0 (l12.set n13.toNat v14).length) J (by simp)<|ImpX.here<|bndE h fun v17 e7 h=>ARun.qv (t_index_sl J J J e7) J<|t_store_aptr1 (g := EventS.av) (el' := v15) J J J J e7 J .p0 J<|ARun.ghost<|ImpX.eqs (s := 0) (av' := .sl 16 b_0 0 ((l12.set n13.toNat v14).set (w64 (n13 + (1 : Int))).toNat v15).length) J (by rw [List.length_set])<|ImpX.here<|ARun.ghost<|ImpX.eqs (s := 61) (av' := .sl 16 b_0 0 ((l12.set n13.toNat v14).set (w64 (n13 + (1 : Int))).toNat v15).length) J (by rw [List.length_set])<|ImpX.here<|ARun.ghost<|ImpX.eqs (s := 63) (av' := .sl 16 b_0 0 ((l12.set n13.toNat v14).set (w64 (n13 + (1 : Int))).toNat v15).length) J (by rw [List.length_set])<|ImpX.here<|ARun.ghost<|ImpX.eqs (s := 66) (av' := .sl 16 b_0 0 ((l12.set n13.toNat v14).set (w64 (n13 + (1 : Int))).toNat v15).length) J (by rw [List.length_set])<|ImpX.here<|ARun.ghost<|ImpX.eqs (s := 71) (av' := .sl 16 b_0 0 ((l12.set n13.toNat v14).set (w64 (n13 + (1 : Int))).toNat v15).length) J (by rw [List.length_set])<|ImpX.here<|rN<|ATodo.blk<|tR<|rM J J<|ARun.qv (q_addw J J) J<|rA J J<|rN<|ATodo.stop<|?_
            obtain rfl := Option.some.inj h
            exact hJ2 _ _ J<|ImpX.lq [0] J J J
          · refine have h := iteF hc h; ATodo.exit J<|have h := outL h hA2; ATodo.ret<|?_
            obtain rfl := Option.some.inj h
            exact ImpX.here ⟨_,.nil,_,.cons .p0 .nil,⟨J,J⟩⟩
  · refine have h := iteF hc h; tK<|tS<|tSR<|rM J J<|rM J J<|ARun.qv (q_subw J J) J<|ARun.qv (q_eql J J) J<|rN<|ATodo.cond_d J (fun hc=>?_) (fun hc=>?_)
    · refine have h := iteT hc h; tSR<|rM J J<|rA J J<|rN<|tSR<|rM J J<|rA J J<|rN<|tS<|ATodo.block<|ATodo.loopI (fun x : Int × Int=>slices_symMergeCmpFunc_Event_b3 p0x0 p2x0 fne x.1 x.2) (fun x σ'=>σ' = ⟨220,[(0,.sl 16 b_0 0 p0x0.length),(2,I p2x0),(4,.func (.func fne_F) fne_C),(14,I x.1),(15,I x.2)],[(b_0,aE4 p0x0)]⟩) h ?_ ?_
      · exact ImpX.lq [0] J J J
      · intro x z3 σ' J3 hmk h hJ3 hA3
        obtain ⟨n20, n21⟩ := x
        obtain rfl := hmk
        replace h : slices_symMergeCmpFunc_Event_b3 p0x0 p2x0 fne n20 n21 = some z3 := h
        unfold slices_symMergeCmpFunc_Event_b3 at h
        refine tS<|tSR<|rM J J<|rM J J<|ARun.qv (q_lss J J) J<|rN<|ATodo.cond_d J (fun hc=>?_) (fun hc=>?_)
        · refine have h := iteT hc h; tK<|ATodo.block<|tSR<|rM J J<|rM J J<|ARun.qv (q_addw J J) J<|ARun.qv (q_conv_int J) J<|ARun.qv (t_shr J J (by decide)) J<|ARun.qv (q_conv_int J) J<|rA J J<|rN<|tS<|ATodo.regionM (id := 17) (A := [0,0,0,6,14,0,0,96,224,511,1023,2047]) 12 mixed J (by kernel_rfl) (by kernel_rfl)<|AM.qv (q_move J) J<|AM.qv (q_move J) J<|AM.qv (q_move J) J<|bndE h fun v22 e8 h=>AM.qv (t_index_sl J J J e8) J<|AM.qv (t_load_aptr_agg (g := EventS.av) J J (.inl .p0) J e8 J) J<|AM.qv (q_move J) J<|AM.qv (q_move J) J<|bndE h fun v23 e9 h=>AM.qv (t_index_sl J J J e9) J<|AM.qv (t_load_aptr_agg (g := EventS.av) J J (.inl .p0) J e9 J) J<|bndE h fun v24 e10 h=>AM.callvp J J (fne_h e10) (CoL.refl _) J<|AM.qv (q_lss J J) J<|AM.qv (q_not_d J) J<|AM.nil<|rN<|ATodo.cut (fun σ'=>∃ (n25 : Int) (n26 : Int),slices_symMergeCmpFunc_Event_j2 n25 n26 = some z3 ∧ σ' = ⟨220,[(0,.sl 16 b_0 0 p0x0.length),(2,I p2x0),(4,.func (.func fne_F) fne_C),(14,I n25),(15,I n26)],[(b_0,aE4 p0x0)]⟩) ?_ ?_
          · refine ATodo.cond_d J (fun hc=>?_) (fun hc=>?_)
            · exact have h := iteT hc h; tR<|rM J J<|ARun.qv (q_addw J J) J<|rA J J<|rN<|ATodo.stop<|ImpX.lq [0] ⟨w64 ((w64 (shrI .u64 (IntKind.u64.wrap (w64 (n20 + n21))) (1 : Int))) + (1 : Int)),n21,h,J⟩ J J
            · exact have h := iteF hc h; tR<|rM J J<|rA J J<|rN<|ATodo.stop<|ImpX.lq [0] ⟨n20,w64 (shrI .u64 (IntKind.u64.wrap (w64 (n20 + n21))) (1 : Int)),h,J⟩ J J
          · rintro σ' ⟨n25, n26, h, rfl⟩
            unfold slices_symMergeCmpFunc_Event_j2 at h
            refine ATodo.blk<|ATodo.stop<|?_
            obtain rfl := Option.some.inj h
            exact hJ3 _ _ J<|ImpX.lq [0] J J J
        · refine have h := iteF hc h; ATodo.exit J<|have h := outL h hA3; tS<|tSR<|rM J J<|rA J J<|rN<|ATodo.block<|ATodo.loopI (fun x : (List EventS) × Int=>slices_symMergeCmpFunc_Event_b4 n20 x.1 x.2) (fun x σ'=>σ' = ⟨220,[(0,.sl 16 b_0 0 x.1.length),(14,I n20),(17,I x.2)],[(b_0,aE4 x.1)]⟩) h ?_ ?_
          · exact ImpX.lq [0] J J J
          · intro x z4 σ' J4 hmk h hJ4 hA4
            obtain ⟨l29, n30⟩ := x
            obtain rfl := hmk
            replace h : slices_symMergeCmpFunc_Event_b4 n20 l29 n30 = some z4 := h
            unfold slices_symMergeCmpFunc_Event_b4 at h
            refine tS<|tSR<|rM J J<|rM J J<|ARun.qv (q_gtr J J) J<|rN<|ATodo.cond_d J (fun hc=>?_) (fun hc=>?_)
            · refine have h := iteT hc h; tK<|tS<|ATodo.block<|bndE h fun v31 e11 h=>bndE h fun v32 e12 h=>bndE h fun v33 e13 h=>ATodo.regionT (id := 23) (A := [0,0,0,0,8,0,0,64,224,480,0,0,3072,7168,16355,32739,65535,131071]) (H0 := [(b_0,aE4 l29)]) (HH := fun β=>[(b_0,aE4 (l29.set n30.toNat v31))]) 16 mixed J (by kernel_rfl) (by kernel_rfl) [⟨none,some 15,[9,13],fun _=>(b_0,aE4 l29),none,[]⟩,⟨some 15,none,[],fun _=>(b_0,aE4 (l29.set n30.toNat v31)),none,[]⟩] [] J (by kernel_rfl) J (.cons .p0 .nil) (fun _=>J)<|AT.am 9 J J<|AM.qv (q_move J) J<|AM.qv (q_move J) J<|AM.qv (q_move J) J<|AM.qv (q_move J) J<|AM.qv (q_subw J J) J<|AM.qv (q_move J) J<|AM.qv (q_move J) J<|AM.qv (q_subw J J) J<|AM.qv (t_index_sl J J J e11) J<|AM.nil<|AT.rd (Rs := [(b_0,aE4 l29)]) (fun _=>J) J (fun _=>J) (fun _=>J) (t_load_aptr_agg (g := EventS.av) J J (.inl .p0) J e11 J) J<|AT.am 3 J J<|AM.qv (q_move J) J<|AM.qv (q_move J) J<|AM.qv (t_index_sl J J J e12) J<|AM.nil<|AT.rd (Rs := [(b_0,aE4 l29)]) (fun _=>J) J (fun _=>J) (fun _=>J) (t_load_aptr_agg (g := EventS.av) J J (.inl .p0) J e12 J) J<|AT.am 1 J J<|AM.qv (t_index_sl J J J e13) J<|AM.nil<|AT.run0 (Ti := [(b_0,aE4 l29)]) (Pi := [(b_0,aE4 (l29.set n30.toNat v31))]) (fun _=>J) (fun _=>J) (fun _=>J) J J ?_ ?_
              · exact t_store_aptr1 (g := EventS.av) (el' := v31) J J J J e13 J .p0 J<|ARun.nil ⟨_,J⟩
              refine AT.nilN (fun _=>J) fun β=>ARun.ghost<|ImpX.eqs (s := 0) (av' := .sl 16 b_0 0 (l29.set n30.toNat v31).length) J (by simp)<|ImpX.here<|ARun.ghost<|ImpX.eqs (s := 113) (av' := .sl 16 b_0 0 (l29.set n30.toNat v31).length) J (by simp)<|ImpX.here<|ARun.ghost<|ImpX.eqs (s := 115) (av' := .sl 16 b_0 0 (l29.set n30.toNat v31).length) J (by simp)<|ImpX.here<|ARun.ghost<|ImpX.eqs (s := 118) (av' := .sl 16 b_0 0 (l29.set n30.toNat v31).length) J (by simp)<|ImpX.here<|ARun.ghost<|ImpX.eqs (s := 123) (av' := .sl 16 b_0 0 (l29.set n30.toNat v31).length) J (by simp)<|ImpX.here<|bndE h fun v34 e14 h=>ARun.qv (t_index_sl J J J e14) J<|t_store_aptr1 (g := EventS.av) (el' := v32) J J J J e14 J .p0 J<|ARun.ghost<|ImpX.eqs (s := 0) (av' := .sl 16 b_0 0 ((l29.set n30.toNat v31).set (w64 (n30 - (1 : Int))).toNat v32).length) J (by rw [List.length_set])<|ImpX.here<|ARun.ghost<|ImpX.eqs (s := 113) (av' := .sl 16 b_0 0 ((l29.set n30.toNat v31).set (w64 (n30 - (1 : Int))).toNat v32).length) J (by rw [List.length_set])<|ImpX.here<|ARun.ghost<|ImpX.eqs (s := 115) (av' := .sl 16 b_0 0 ((l29.set n30.toNat v31).set (w64 (n30 - (1 : Int))).toNat v32).length) J (by rw [List.length_set])<|ImpX.here<|ARun.ghost<|ImpX.eqs (s := 118) (av' := .sl 16 b_0 0 ((l29.set n30.toNat v31).set (w64 (n30 - (1 : Int))).toNat v32).length) J (by rw [List.length_set])<|ImpX.here<|ARun.ghost<|ImpX.eqs (s := 123) (av' := .sl 16 b_0 0 ((l29.set n30.toNat v31).set (w64 (n30 - (1 : Int))).toNat v32).length) J (by rw [List.length_set])<|ImpX.here<|rN<|ATodo.blk<|tR<|rM J J<|ARun.qv (q_subw J J) J<|rA J J<|rN<|ATodo.stop<|?_
              obtain rfl := Option.some.inj h
              exact hJ4 _ _ J<|ImpX.lq [0] J J J
            · refine have h := iteF hc h; ATodo.exit J<|have h := outL h hA4; ATodo.ret<|?_
              obtain rfl := Option.some.inj h
              exact ImpX.here ⟨_,.nil,_,.cons .p0 .nil,⟨J,J⟩⟩
    · refine have h := iteF hc h; tK<|tSR<|rM J J<|rM J J<|ARun.qv (q_addw J J) J<|ARun.qv (q_conv_int J) J<|ARun.qv (t_shr J J (by decide)) J<|ARun.qv (q_conv_int J) J<|rA J J<|rN<|tSR<|rM J J<|rM J J<|ARun.qv (q_addw J J) J<|rA J J<|rN<|tSR<|rA J J<|rA J J<|rN<|tS<|tSR<|rM J J<|rM J J<|ARun.qv (q_gtr J J) J<|rN<|ATodo.cut (fun σ'=>∃ (n35 : Int) (n36 : Int),slices_symMergeCmpFunc_Event_j3 self p0x0 p1x0 p2x0 p3x0 fne n35 n36 = some r ∧ σ' = ⟨220,[(0,.sl 16 b_0 0 p0x0.length),(1,I p1x0),(2,I p2x0),(3,I p3x0),(4,.func (.func fne_F) fne_C),(18,I (w64 (shrI .u64 (IntKind.u64.wrap (w64 (p1x0 + p3x0))) (1 : Int)))),(19,I (w64 ((w64 (shrI .u64 (IntKind.u64.wrap (w64 (p1x0 + p3x0))) (1 : Int))) + p2x0))),(20,I n35),(21,I n36)],[(b_0,aE4 p0x0)]⟩) ?_ ?_
      · refine ATodo.cond_d J (fun hc=>?_) (fun hc=>?_)
        · exact have h := iteT hc h; tSR<|rM J J<|rM J J<|ARun.qv (q_subw J J) J<|rA J J<|rN<|tR<|rM J J<|rA J J<|rN<|ATodo.stop<|ImpX.lq [0] ⟨w64 ((w64 ((w64 (shrI .u64 (IntKind.u64.wrap (w64 (p1x0 + p3x0))) (1 : Int))) + p2x0)) - p3x0),w64 (shrI .u64 (IntKind.u64.wrap (w64 (p1x0 + p3x0))) (1 : Int)),h,J⟩ J J
        · exact have h := iteF hc h; tSR<|rM J J<|rA J J<|rN<|tR<|rM J J<|rA J J<|rN<|ATodo.stop<|ImpX.lq [0] ⟨p1x0,p2x0,h,J⟩ J J
      · rintro σ' ⟨n35, n36, h, rfl⟩
        unfold slices_symMergeCmpFunc_Event_j3 at h
        refine tSR<|rM J J<|ARun.qv (q_subw J J) J<|rA J J<|rN<|tS<|ATodo.block<|ATodo.loopI (fun x : Int × Int=>slices_symMergeCmpFunc_Event_b5 self p0x0 p1x0 p2x0 p3x0 fne x.1 x.2) (fun x σ'=>σ' = ⟨220,[(0,.sl 16 b_0 0 p0x0.length),(1,I p1x0),(2,I p2x0),(3,I p3x0),(4,.func (.func fne_F) fne_C),(18,I (w64 (shrI .u64 (IntKind.u64.wrap (w64 (p1x0 + p3x0))) (1 : Int)))),(19,I (w64 ((w64 (shrI .u64 (IntKind.u64.wrap (w64 (p1x0 + p3x0))) (1 : Int))) + p2x0))),(20,I x.1),(21,I x.2),(22,I (w64 ((w64 ((w64 (shrI .u64 (IntKind.u64.wrap (w64 (p1x0 + p3x0))) (1 : Int))) + p2x0)) - (1 : Int))))],[(b_0,aE4 p0x0)]⟩) h ?_ ?_
        · exact ImpX.lq [0] J J J
        · intro x z5 σ' J5 hmk h hJ5 hA5
          obtain ⟨n39, n40⟩ := x
          obtain rfl := hmk
          replace h : slices_symMergeCmpFunc_Event_b5 self p0x0 p1x0 p2x0 p3x0 fne n39 n40 = some z5 := h
          unfold slices_symMergeCmpFunc_Event_b5 at h
          refine tS<|tSR<|rM J J<|rM J J<|ARun.qv (q_lss J J) J<|rN<|ATodo.cond_d J (fun hc=>?_) (fun hc=>?_)
          · refine have h := iteT hc h; tK<|ATodo.block<|tSR<|rM J J<|rM J J<|ARun.qv (q_addw J J) J<|ARun.qv (q_conv_int J) J<|ARun.qv (t_shr J J (by decide)) J<|ARun.qv (q_conv_int J) J<|rA J J<|rN<|tS<|ATodo.regionM (id := 35) (A := [0,0,0,0,12,30,62,0,0,384,896,2047,4095,8191]) 14 mixed J (by kernel_rfl) (by kernel_rfl)<|AM.qv (q_move J) J<|AM.qv (q_move J) J<|AM.qv (q_move J) J<|AM.qv (q_move J) J<|AM.qv (q_subw J J) J<|bndE h fun v41 e15 h=>AM.qv (t_index_sl J J J e15) J<|AM.qv (t_load_aptr_agg (g := EventS.av) J J (.inl .p0) J e15 J) J<|AM.qv (q_move J) J<|AM.qv (q_move J) J<|bndE h fun v42 e16 h=>AM.qv (t_index_sl J J J e16) J<|AM.qv (t_load_aptr_agg (g := EventS.av) J J (.inl .p0) J e16 J) J<|bndE h fun v43 e17 h=>AM.callvp J J (fne_h e17) (CoL.refl _) J<|AM.qv (q_lss J J) J<|AM.qv (q_not_d J) J<|AM.nil<|rN<|ATodo.cut (fun σ'=>∃ (n44 : Int) (n45 : Int),slices_symMergeCmpFunc_Event_j4 n44 n45 = some z5 ∧ σ' = ⟨220,[(0,.sl 16 b_0 0 p0x0.length),(1,I p1x0),(2,I p2x0),(3,I p3x0),(4,.func (.func fne_F) fne_C),(18,I (w64 (shrI .u64 (IntKind.u64.wrap (w64 (p1x0 + p3x0))) (1 : Int)))),(19,I (w64 ((w64 (shrI .u64 (IntKind.u64.wrap (w64 (p1x0 + p3x0))) (1 : Int))) + p2x0))),(20,I n44),(21,I n45),(22,I (w64 ((w64 ((w64 (shrI .u64 (IntKind.u64.wrap (w64 (p1x0 + p3x0))) (1 : Int))) + p2x0)) - (1 : Int))))],[(b_0,aE4 p0x0)]⟩) ?_ ?_
            · refine ATodo.cond_d J (fun hc=>?_) (fun hc=>?_)
              · exact have h := iteT hc h; tR<|rM J J<|ARun.qv (q_addw J J) J<|rA J J<|rN<|ATodo.stop<|ImpX.lq [0] ⟨w64 ((w64 (shrI .u64 (IntKind.u64.wrap (w64 (n39 + n40))) (1 : Int))) + (1 : Int)),n40,h,J⟩ J J
              · exact have h := iteF hc h; tR<|rM J J<|rA J J<|rN<|ATodo.stop<|ImpX.lq [0] ⟨n39,w64 (shrI .u64 (IntKind.u64.wrap (w64 (n39 + n40))) (1 : Int)),h,J⟩ J J
            · rintro σ' ⟨n44, n45, h, rfl⟩
              unfold slices_symMergeCmpFunc_Event_j4 at h
              refine ATodo.blk<|ATodo.stop<|?_
              obtain rfl := Option.some.inj h
              exact hJ5 _ _ J<|ImpX.lq [0] J J J
          · refine have h := iteF hc h; ATodo.exit J<|have h := outL h hA5; tSR<|rM J J<|rM J J<|ARun.qv (q_subw J J) J<|rA J J<|rN<|tS<|tS<|ATodo.cut (fun σ'=>∃ (c46 : Bool),slices_symMergeCmpFunc_Event_j5 self p0x0 p1x0 p2x0 p3x0 fne n39 c46 = some r ∧ σ' = ⟨220,[(0,.sl 16 b_0 0 p0x0.length),(1,I p1x0),(2,I p2x0),(3,I p3x0),(4,.func (.func fne_F) fne_C),(18,I (w64 (shrI .u64 (IntKind.u64.wrap (w64 (p1x0 + p3x0))) (1 : Int)))),(20,I n39),(24,I (w64 ((w64 ((w64 (shrI .u64 (IntKind.u64.wrap (w64 (p1x0 + p3x0))) (1 : Int))) + p2x0)) - n39))),(185,.bool c46)],[(b_0,aE4 p0x0)]⟩) ?_ ?_
            · refine tR<|rM J J<|rM J J<|ARun.qv (q_lss J J) J<|rM J J<|ARun.guard_dt J J J (fun hc=>?_) (fun hc=>?_)
              · rw [andTd hc] at h
                exact rM J J<|rY J J J<|rM J J<|rY J J J<|ARun.qv (q_lss J J) J<|rT J J J<|rN<|ATodo.stop<|ImpX.lq [0] ⟨decide (p2x0 < (w64 ((w64 ((w64 (shrI .u64 (IntKind.u64.wrap (w64 (p1x0 + p3x0))) (1 : Int))) + p2x0)) - n39))),h,J⟩ J J
              · rw [andFd hc] at h
                exact rG J J J J<|rG J J J J<|rE J J J<|rN<|ATodo.stop<|ImpX.lq [0] ⟨false,h,J⟩ J J
            · rintro σ' ⟨c46, h, rfl⟩
              unfold slices_symMergeCmpFunc_Event_j5 at h
              refine ATodo.cut (fun σ'=>∃ (l47 : List EventS),slices_symMergeCmpFunc_Event_j6 self p1x0 p2x0 p3x0 fne n39 l47 = some r ∧ σ' = ⟨220,[(0,.sl 16 b_0 0 l47.length),(1,I p1x0),(3,I p3x0),(4,.func (.func fne_F) fne_C),(18,I (w64 (shrI .u64 (IntKind.u64.wrap (w64 (p1x0 + p3x0))) (1 : Int)))),(20,I n39),(24,I (w64 ((w64 ((w64 (shrI .u64 (IntKind.u64.wrap (w64 (p1x0 + p3x0))) (1 : Int))) + p2x0)) - n39)))],[(b_0,aE4 l47)]⟩) ?_ ?_
              · refine ATodo.cond J (fun hc=>?_) (fun hc=>?_)
                · exact have h := iteT hc h; tR<|rM J J<|rM J J<|rM J J<|rM J J<|rM J J<|bndE h fun v48 e18 h=>t_call0 J (slices_rotateCmpFunc_Event_c fne_h (lenOk_f e18)) (CoL.refl _) (.cons .p0 .nil) J J<|ARun.ghost<|ImpX.eqs (s := 0) (av' := .sl 16 b_0 0 v48.length) J (congrArg (AV.sl 16 b_0 0) (lenOk_l e18))<|ImpX.here<|ARun.ghost<|ImpX.eqs (s := 186) (av' := .sl 16 b_0 0 v48.length) J (congrArg (AV.sl 16 b_0 0) (lenOk_l e18))<|ImpX.here<|rN<|ATodo.stop<|ImpX.lq [0] ⟨v48,h,J⟩ J J
                · exact have h := iteFb hc h; tK<|ATodo.stop<|ImpX.lq [0] ⟨p0x0,h,J⟩ J J
              · rintro σ' ⟨l47, h, rfl⟩
                unfold slices_symMergeCmpFunc_Event_j6 at h
                refine tS<|tS<|ATodo.cut (fun σ'=>∃ (c49 : Bool),slices_symMergeCmpFunc_Event_j7 self p1x0 p2x0 p3x0 fne n39 l47 c49 = some r ∧ σ' = ⟨220,[(0,.sl 16 b_0 0 l47.length),(1,I p1x0),(3,I p3x0),(4,.func (.func fne_F) fne_C),(18,I (w64 (shrI .u64 (IntKind.u64.wrap (w64 (p1x0 + p3x0))) (1 : Int)))),(20,I n39),(24,I (w64 ((w64 ((w64 (shrI .u64 (IntKind.u64.wrap (w64 (p1x0 + p3x0))) (1 : Int))) + p2x0)) - n39))),(199,.bool c49)],[(b_0,aE4 l47)]⟩) ?_ ?_
                · refine tR<|rM J J<|rM J J<|ARun.qv (q_lss J J) J<|rM J J<|ARun.guard_dt J J J (fun hc=>?_) (fun hc=>?_)
                  · rw [andTd hc] at h
                    exact rM J J<|rY J J J<|rM J J<|rY J J J<|ARun.qv (q_lss J J) J<|rT J J J<|rN<|ATodo.stop<|ImpX.lq [0] ⟨decide (n39 < (w64 (shrI .u64 (IntKind.u64.wrap (w64 (p1x0 + p3x0))) (1 : Int)))),h,J⟩ J J
                  · rw [andFd hc] at h
                    exact rG J J J J<|rG J J J J<|rE J J J<|rN<|ATodo.stop<|ImpX.lq [0] ⟨false,h,J⟩ J J
                · rintro σ' ⟨c49, h, rfl⟩
                  unfold slices_symMergeCmpFunc_Event_j7 at h
                  refine ATodo.cut (fun σ'=>∃ (l50 : List EventS),slices_symMergeCmpFunc_Event_j8 self p1x0 p2x0 p3x0 fne n39 l50 = some r ∧ σ' = ⟨220,[(0,.sl 16 b_0 0 l50.length),(3,I p3x0),(4,.func (.func fne_F) fne_C),(18,I (w64 (shrI .u64 (IntKind.u64.wrap (w64 (p1x0 + p3x0))) (1 : Int)))),(24,I (w64 ((w64 ((w64 (shrI .u64 (IntKind.u64.wrap (w64 (p1x0 + p3x0))) (1 : Int))) + p2x0)) - n39)))],[(b_0,aE4 l50)]⟩) ?_ ?_
                  · refine ATodo.cond J (fun hc=>?_) (fun hc=>?_)
                    · exact have h := iteT hc h; tR<|rM J J<|rM J J<|rM J J<|rM J J<|rM J J<|bndE h fun v51 e19 h=>t_call0 J (self_h fne_h (lenOk_f e19)) (CoL.refl _) (.cons .p0 .nil) J J<|ARun.ghost<|ImpX.eqs (s := 0) (av' := .sl 16 b_0 0 v51.length) J (congrArg (AV.sl 16 b_0 0) (lenOk_l e19))<|ImpX.here<|ARun.ghost<|ImpX.eqs (s := 200) (av' := .sl 16 b_0 0 v51.length) J (congrArg (AV.sl 16 b_0 0) (lenOk_l e19))<|ImpX.here<|rN<|ATodo.stop<|ImpX.lq [0] ⟨v51,h,J⟩ J J
                    · exact have h := iteFb hc h; tK<|ATodo.stop<|ImpX.lq [0] ⟨l47,h,J⟩ J J
                  · rintro σ' ⟨l50, h, rfl⟩
                    unfold slices_symMergeCmpFunc_Event_j8 at h
                    refine tS<|ATodo.cut (fun σ'=>∃ (c52 : Bool),slices_symMergeCmpFunc_Event_j9 self p1x0 p2x0 p3x0 fne n39 l50 c52 = some r ∧ σ' = ⟨220,[(0,.sl 16 b_0 0 l50.length),(3,I p3x0),(4,.func (.func fne_F) fne_C),(18,I (w64 (shrI .u64 (IntKind.u64.wrap (w64 (p1x0 + p3x0))) (1 : Int)))),(24,I (w64 ((w64 ((w64 (shrI .u64 (IntKind.u64.wrap (w64 (p1x0 + p3x0))) (1 : Int))) + p2x0)) - n39))),(213,.bool c52)],[(b_0,aE4 l50)]⟩) ?_ ?_
                    · refine tR<|rM J J<|rM J J<|ARun.qv (q_lss J J) J<|rM J J<|ARun.guard_dt J J J (fun hc=>?_) (fun hc=>?_)
                      · rw [andTd hc] at h
                        exact rM J J<|rY J J J<|rM J J<|rY J J J<|ARun.qv (q_lss J J) J<|rT J J J<|rN<|ATodo.stop<|ImpX.lq [0] ⟨decide ((w64 ((w64 ((w64 (shrI .u64 (IntKind.u64.wrap (w64 (p1x0 + p3x0))) (1 : Int))) + p2x0)) - n39)) < p3x0),h,J⟩ J J
                      · rw [andFd hc] at h
                        exact rG J J J J<|rG J J J J<|rE J J J<|rN<|ATodo.stop<|ImpX.lq [0] ⟨false,h,J⟩ J J
                    · rintro σ' ⟨c52, h, rfl⟩
                      unfold slices_symMergeCmpFunc_Event_j9 at h
                      refine ATodo.cut (fun σ'=>∃ (l53 : List EventS),slices_symMergeCmpFunc_Event_j10 l53 = some r ∧ σ' = ⟨220,[],[(b_0,aE4 l53)]⟩) ?_ ?_
                      · refine ATodo.cond J (fun hc=>?_) (fun hc=>?_)
                        · exact have h := iteT hc h; tR<|rM J J<|rM J J<|rM J J<|rM J J<|rM J J<|bndE h fun v54 e20 h=>t_call0 J (self_h fne_h (lenOk_f e20)) (CoL.refl _) (.cons .p0 .nil) J J<|ARun.ghost<|ImpX.eqs (s := 0) (av' := .sl 16 b_0 0 v54.length) J (congrArg (AV.sl 16 b_0 0) (lenOk_l e20))<|ImpX.here<|ARun.ghost<|ImpX.eqs (s := 214) (av' := .sl 16 b_0 0 v54.length) J (congrArg (AV.sl 16 b_0 0) (lenOk_l e20))<|ImpX.here<|rN<|ATodo.stop<|ImpX.lq [0] ⟨v54,h,J⟩ J J
                        · exact have h := iteFb hc h; tK<|ATodo.stop<|ImpX.lq [0] ⟨l50,h,J⟩ J J
                      · rintro σ' ⟨l53, h, rfl⟩
                        unfold slices_symMergeCmpFunc_Event_j10 at h
                        refine ATodo.nil<|?_
                        obtain rfl := Option.some.inj h
                        exact ImpX.here ⟨_,.nil,_,.cons .p0 .nil,⟨J,J⟩⟩
theorem slices_symMergeCmpFunc_Event_r_c [GI : GTab] : ∀ (k : Nat) {b_0 : Bk} {p0x0 : List EventS} {p1x0 : Int} {p2x0 : Int} {p3x0 : Int} {fne : EventS → EventS → Option Int} {fne_F : FuncId} [IsFn Tryz.prog fne_F] {fne_C : List AV} (fne_h : ∀ {y0 y1 : _} {u : Int},fne y0 y1 = some u → Pu Tryz.prog fne_F (EventS.av y0 :: EventS.av y1 ::  fne_C) (I u)) {r : (List EventS)},slices_symMergeCmpFunc_Event_r k p0x0 p1x0 p2x0 p3x0 fne = some r → ACall Tryz.prog 181 [.sl 16 b_0 0 p0x0.length,I p1x0,I p2x0,I p3x0,.func (.func fne_F) fne_C] [(b_0,aE4 p0x0)] (T0 ([(b_0,aE4 r)]) (.tup [])) := by
  intro k
  induction k with
  | zero=>intro b_0 p0x0 p1x0 p2x0 p3x0 fne fne_F _ fne_C fne_h r h; cases h
  | succ k ih=>intro b_0 p0x0 p1x0 p2x0 p3x0 fne fne_F _ fne_C fne_h r h; exact slices_symMergeCmpFunc_Event_bd_c ih fne_h h
theorem slices_symMergeCmpFunc_Event_c [GI : GTab] {b_0 : Bk} {p0x0 : List EventS} {p1x0 : Int} {p2x0 : Int} {p3x0 : Int} {fne : EventS → EventS → Option Int} {fne_F : FuncId} [IsFn Tryz.prog fne_F] {fne_C : List AV} (fne_h : ∀ {y0 y1 : _} {u : Int},fne y0 y1 = some u → Pu Tryz.prog fne_F (EventS.av y0 :: EventS.av y1 ::  fne_C) (I u)) {r : (List EventS)} (h : slices_symMergeCmpFunc_Event p0x0 p1x0 p2x0 p3x0 fne = some r) : ACall Tryz.prog 181 [.sl 16 b_0 0 p0x0.length,I p1x0,I p2x0,I p3x0,.func (.func fne_F) fne_C] [(b_0,aE4 p0x0)] (T0 ([(b_0,aE4 r)]) (.tup [])) := slices_symMergeCmpFunc_Event_r_c depth fne_h h

theorem slices_stableCmpFunc_Event_c [GI : GTab] {b_0 : Bk} {p0x0 : List EventS} {p1x0 : Int} {fnc : EventS → EventS → Option Int} {fnc_F : FuncId} [IsFn Tryz.prog fnc_F] {fnc_C : List AV} (fnc_h : ∀ {y0 y1 : _} {u : Int},fnc y0 y1 = some u → Pu Tryz.prog fnc_F (EventS.av y0 :: EventS.av y1 ::  fnc_C) (I u)) {r : (List EventS)} (h : slices_stableCmpFunc_Event p0x0 p1x0 fnc = some r) : ACall Tryz.prog 119 [.sl 16 b_0 0 p0x0.length,I p1x0,.func (.func fnc_F) fnc_C] [(b_0,aE4 p0x0)] (T0 ([(b_0,aE4 r)]) (.tup [])) := by
  unfold slices_stableCmpFunc_Event at h
  refine ACall.lessH ?_
  refine ACall.bodyN Tryz.func119 J Tryz.ntmps119 Tryz.results119 J J ?_
  refine tSR<|rA J J<|rN<|tSR<|rM J J<|rA J J<|rA J J<|rN<|tS<|ATodo.block<|ATodo.loopI (fun x : (List EventS) × Int × Int=>slices_stableCmpFunc_Event_b1 p1x0 fnc x.1 x.2.1 x.2.2) (fun x σ'=>σ' = ⟨63,[(0,.sl 16 b_0 0 x.1.length),(1,I p1x0),(2,.func (.func fnc_F) fnc_C),(6,I (20 : Int)),(7,I x.2.1),(8,I x.2.2)],[(b_0,aE4 x.1)]⟩) h ?_ ?_
  · exact ImpX.lq [0] J J J
  · intro x z1 σ' J1 hmk h hJ1 hA1
    obtain ⟨l4, n5, n6⟩ := x
    obtain rfl := hmk
    replace h : slices_stableCmpFunc_Event_b1 p1x0 fnc l4 n5 n6 = some z1 := h
    unfold slices_stableCmpFunc_Event_b1 at h
    refine tS<|tSR<|rM J J<|rM J J<|ARun.qv (q_leq J J) J<|rN<|ATodo.cond_d J (fun hc=>?_) (fun hc=>?_)
    · refine have h := iteT hc h; tK<|ATodo.block<|tSR<|rM J J<|rM J J<|rM J J<|rM J J<|bndE h fun v7 e1 h=>t_call0 J (slices_insertionSortCmpFunc_Event_c fnc_h (lenOk_f e1)) (CoL.refl _) (.cons .p0 .nil) J J<|ARun.ghost<|ImpX.eqs (s := 0) (av' := .sl 16 b_0 0 v7.length) J (congrArg (AV.sl 16 b_0 0) (lenOk_l e1))<|ImpX.here<|ARun.ghost<|ImpX.eqs (s := 14) (av' := .sl 16 b_0 0 v7.length) J (congrArg (AV.sl 16 b_0 0) (lenOk_l e1))<|ImpX.here<|rN<|tSR<|rM J J<|rA J J<|rN<|tR<|rM J J<|rM J J<|ARun.qv (q_addw J J) J<|rA J J<|rN<|ATodo.blk<|ATodo.stop<|?_
      obtain rfl := Option.some.inj h
      exact hJ1 _ _ J<|ImpX.lq [0] J J J
    · refine have h := iteF hc h; ATodo.exit J<|have h := outL h hA1; ?_
      unfold slices_stableCmpFunc_Event_k3 at h
      refine tSR<|rM J J<|rM J J<|rM J J<|rM J J<|bndE h fun v8 e2 h=>t_call0 J (slices_insertionSortCmpFunc_Event_c fnc_h (lenOk_f e2)) (CoL.refl _) (.cons .p0 .nil) J J<|ARun.ghost<|ImpX.eqs (s := 0) (av' := .sl 16 b_0 0 v8.length) J (congrArg (AV.sl 16 b_0 0) (lenOk_l e2))<|ImpX.here<|ARun.ghost<|ImpX.eqs (s := 23) (av' := .sl 16 b_0 0 v8.length) J (congrArg (AV.sl 16 b_0 0) (lenOk_l e2))<|ImpX.here<|rN<|ATodo.block<|ATodo.loopI (fun x : (List EventS) × Int=>slices_stableCmpFunc_Event_b2 p1x0 fnc x.1 x.2) (fun x σ'=>σ' = ⟨63,[(0,.sl 16 b_0 0 x.1.length),(1,I p1x0),(2,.func (.func fnc_F) fnc_C),(6,I x.2)],[(b_0,aE4 x.1)]⟩) h ?_ ?_
      · exact ImpX.lq [0] J J J
      · intro x z2 σ' J2 hmk h hJ2 hA2
        obtain ⟨l11, n12⟩ := x
        obtain rfl := hmk
        replace h : slices_stableCmpFunc_Event_b2 p1x0 fnc l11 n12 = some z2 := h
        unfold slices_stableCmpFunc_Event_b2 at h
        refine tS<|tSR<|rM J J<|rM J J<|ARun.qv (q_lss J J) J<|rN<|ATodo.cond_d J (fun hc=>?_) (fun hc=>?_)
        · refine have h := iteT hc h; tK<|ATodo.block<|tSR<|rM J J<|ARun.qv (q_mulw J J) J<|rA J J<|rA J J<|rN<|tS<|ATodo.block<|ATodo.loopI (fun x : (List EventS) × Int × Int=>slices_stableCmpFunc_Event_b3 p1x0 fnc n12 x.1 x.2.1 x.2.2) (fun x σ'=>σ' = ⟨63,[(0,.sl 16 b_0 0 x.1.length),(1,I p1x0),(2,.func (.func fnc_F) fnc_C),(6,I n12),(7,I x.2.1),(8,I x.2.2)],[(b_0,aE4 x.1)]⟩) h ?_ ?_
          · exact ImpX.lq [0] J J J
          · intro x z3 σ' J3 hmk h hJ3 hA3
            obtain ⟨l16, n17, n18⟩ := x
            obtain rfl := hmk
            replace h : slices_stableCmpFunc_Event_b3 p1x0 fnc n12 l16 n17 n18 = some z3 := h
            unfold slices_stableCmpFunc_Event_b3 at h
            refine tS<|tSR<|rM J J<|rM J J<|ARun.qv (q_leq J J) J<|rN<|ATodo.cond_d J (fun hc=>?_) (fun hc=>?_)
            · refine have h := iteT hc h; tK<|ATodo.block<|tSR<|rM J J<|rM J J<|rM J J<|rM J J<|ARun.qv (q_addw J J) J<|rM J J<|rM J J<|bndE h fun v19 e3 h=>t_call0 J (slices_symMergeCmpFunc_Event_c fnc_h (lenOk_f e3)) (CoL.refl _) (.cons .p0 .nil) J J<|ARun.ghost<|ImpX.eqs (s := 0) (av' := .sl 16 b_0 0 v19.length) J (congrArg (AV.sl 16 b_0 0) (lenOk_l e3))<|ImpX.here<|ARun.ghost<|ImpX.eqs (s := 36) (av' := .sl 16 b_0 0 v19.length) J (congrArg (AV.sl 16 b_0 0) (lenOk_l e3))<|ImpX.here<|rN<|tSR<|rM J J<|rA J J<|rN<|tR<|rM J J<|rM J J<|ARun.qv (q_mulw J J) J<|ARun.qv (q_addw J J) J<|rA J J<|rN<|ATodo.blk<|ATodo.stop<|?_
              obtain rfl := Option.some.inj h
              exact hJ3 _ _ J<|ImpX.lq [0] J J J
            · refine have h := iteF hc h; ATodo.exit J<|have h := outL h hA3; ?_
              unfold slices_stableCmpFunc_Event_k2 at h
              refine tS<|tSR<|rM J J<|rM J J<|ARun.qv (q_addw J J) J<|rA J J<|rN<|tSR<|rM J J<|rM J J<|ARun.qv (q_lss J J) J<|rN<|ATodo.cut (fun σ'=>∃ (l20 : List EventS),slices_stableCmpFunc_Event_j1 n12 l20 = some z2 ∧ σ' = ⟨63,[(0,.sl 16 b_0 0 l20.length),(1,I p1x0),(2,.func (.func fnc_F) fnc_C),(6,I n12)],[(b_0,aE4 l20)]⟩) ?_ ?_
              · refine ATodo.cond_d J (fun hc=>?_) (fun hc=>?_)
                · exact have h := iteT hc h; tR<|rM J J<|rM J J<|rM J J<|rM J J<|rM J J<|bndE h fun v21 e4 h=>t_call0 J (slices_symMergeCmpFunc_Event_c fnc_h (lenOk_f e4)) (CoL.refl _) (.cons .p0 .nil) J J<|ARun.ghost<|ImpX.eqs (s := 0) (av' := .sl 16 b_0 0 v21.length) J (congrArg (AV.sl 16 b_0 0) (lenOk_l e4))<|ImpX.here<|ARun.ghost<|ImpX.eqs (s := 55) (av' := .sl 16 b_0 0 v21.length) J (congrArg (AV.sl 16 b_0 0) (lenOk_l e4))<|ImpX.here<|rN<|ATodo.stop<|ImpX.lq [0] ⟨v21,h,J⟩ J J
                · exact have h := iteF hc h; tK<|ATodo.stop<|ImpX.lq [0] ⟨l16,h,J⟩ J J
              · rintro σ' ⟨l20, h, rfl⟩
                unfold slices_stableCmpFunc_Event_j1 at h
                refine tR<|rM J J<|ARun.qv (q_mulw J J) J<|rA J J<|rN<|ATodo.blk<|ATodo.stop<|?_
                obtain rfl := Option.some.inj h
                exact hJ2 _ _ J<|ImpX.lq [0] J J J
        · refine have h := iteF hc h; ATodo.exit J<|have h := outL h hA2; ATodo.nil<|?_
          obtain rfl := Option.some.inj h
          exact ImpX.here ⟨_,.nil,_,.cons .p0 .nil,⟨J,J⟩⟩

theorem slices_SortStableFunc_Event_Event_c [GI : GTab] {b_0 : Bk} {p0x0 : List EventS} {fnb : EventS → EventS → Option Int} {fnb_F : FuncId} [IsFn Tryz.prog fnb_F] {fnb_C : List AV} (fnb_h : ∀ {y0 y1 : _} {u : Int},fnb y0 y1 = some u → Pu Tryz.prog fnb_F (EventS.av y0 :: EventS.av y1 ::  fnb_C) (I u)) {r : (List EventS)} (h : slices_SortStableFunc_Event_Event p0x0 fnb = some r) : ACall Tryz.prog 59 [.sl 16 b_0 0 p0x0.length,.func (.func fnb_F) fnb_C] [(b_0,aE4 p0x0)] (T0 ([(b_0,aE4 r)]) (.tup [])) := by
  unfold slices_SortStableFunc_Event_Event at h
  refine ACall.lessH ?_
  refine ACall.bodyN Tryz.func59 J Tryz.ntmps59 Tryz.results59 J J ?_
  refine tR<|rM J J<|rM J J<|ARun.qv (t_len_sl J) J<|rM J J<|bndE h fun v1 e1 h=>t_call0 J (slices_stableCmpFunc_Event_c fnb_h (lenOk_f e1)) (CoL.refl _) (.cons .p0 .nil) J J<|ARun.ghost<|ImpX.eqs (s := 0) (av' := .sl 16 b_0 0 v1.length) J (congrArg (AV.sl 16 b_0 0) (lenOk_l e1))<|ImpX.here<|ARun.ghost<|ImpX.eqs (s := 4) (av' := .sl 16 b_0 0 v1.length) J (congrArg (AV.sl 16 b_0 0) (lenOk_l e1))<|ImpX.here<|ARun.ghost<|ImpX.eqs (s := 5) (av' := .sl 16 b_0 0 v1.length) J (congrArg (AV.sl 16 b_0 0) (lenOk_l e1))<|ImpX.here<|rN<|ATodo.nil<|?_
  obtain rfl := Option.some.inj h
  exact ImpX.here ⟨_,.nil,_,.cons .p0 .nil,⟨J,J⟩⟩

theorem Stream_Events_c [GI : GTab] {b_0 : Bk} {p0x0 : Fleetmake_Stream} {p1x0 : Int} {r : (List EventS) × Fleetmake_Stream} (h : Stream_Events p0x0 p1x0 = some r) : ACall Tryz.prog 8 [.ptr b_0 0,I p1x0] [(b_0,.cells [lE0 p0x0.L,I p0x0.at_])] (T1 (fun d_0=>[(b_0,.cells [lE0 r.2.L,I r.2.at_]),(d_0,aE4 r.1)]) (fun d_0=>.sl 16 d_0 0 r.1.length)) := by
  unfold Stream_Events at h
  refine ACall.lessH ?_
  refine ACall.bodyN Tryz.func8 J Tryz.ntmps8 Tryz.results8 J J ?_
  refine tSR<|rA J J<|rN<|tSR<|rA J J<|rN<|tSR<|t_makeMap J fun b1=>rA J J<|rN<|tSR<|rM J J<|bndE h fun v2 e1 h=>t_call0 J (Stream_Next_c e1) (CoL.refl _) (.cons .p1 .nil) J J<|rA J J<|rA J J<|rN<|tS<|tSR<|rM J J<|rM J J<|rN<|ATodo.block<|ATodo.loopI (fun x : (List Int) × Int × (List EventS) × (List (Str × Int)) × Int × Int × Int=>Stream_Events_b1 p1x0 x.1 x.2.1 x.2.2.1 x.2.2.2.1 x.2.2.2.2.1 x.2.2.2.2.2.1 x.2.2.2.2.2.2) (fun x σ'=>∃ (b13 : Bk),σ' = ⟨111,[(0,.ptr b_0 0),(5,.sl 16 b13 0 x.2.2.1.length),(6,.mref b1),(7,I x.2.2.2.2.1),(8,I x.2.2.2.2.2.1),(14,I p1x0),(15,I x.2.2.2.2.2.2)],[(b_0,.cells [lE0 x.1,I x.2.1]),(b13,aE4 x.2.2.1),(b1,mE5 x.2.2.2.1)]⟩) h ?_ ?_
  · exact ImpX.arr (s := 5) 16 J fun b19=>ImpX.lq [1,0,0] ⟨b19,J⟩ J J
  · intro x z1 σ' J1 hmk h hJ1 hA1
    obtain ⟨l11, n12, l14, l15, n16, n17, n18⟩ := x
    obtain ⟨b13, rfl⟩ := hmk
    replace h : Stream_Events_b1 p1x0 l11 n12 l14 l15 n16 n17 n18 = some z1 := h
    unfold Stream_Events_b1 at h
    refine tSR<|ARun.qv (q_lss J J) J<|rN<|tS<|ATodo.cond_d J (fun hc=>?_) (fun hc=>?_)
    · refine have h := iteT hc h; tK<|tS<|ATodo.block<|tSR<|rM J J<|rM J J<|bndE h fun v20 e2 h=>t_call0 J (Stream_Happening_c e2) (CoL.refl _) (.cons .p0 .nil) J J<|n_alloc J J J J fun b21=>n_store_ptr J J J J .p0 J J<|rN<|tSR<|rM J J<|n_buildSliceL (xs := ([([104,97] : Str),([104,97] : Str),([104,98] : Str)]).map AV.str) J J J J J J<|bndE h fun v22 e3 h=>t_call0 J (Stream_Some_c e3) (CoL.refl _) (.cons .p1 .nil) J J<|rF J J J<|n_store_ptr J J J J .p1 J J<|rN<|tSR<|rM J J<|rF J J J<|rL J J .p1 J J<|bndE h fun v23 e4 h=>ARun.qv (t_lookup (gk := AV.str) (gv := I) (M := l15) (key := v22.1) (Z := (0 : Int)) J J .p3 J J J e4 J) J<|ARun.qv (q_addw J J) J<|t_mapUpdate (gk := AV.str) (gv := I) (M := l15) (key := v22.1) (v := w64 (v23 + (1 : Int))) J J J J .p3<|rN<|tSR<|rM J J<|rF J J J<|rL J J .p1 J J<|bndE h fun v24 e5 h=>ARun.qv (t_lookup (gk := AV.str) (gv := I) (M := (mset l15 v22.1 (w64 (v23 + (1 : Int))))) (key := v22.1) (Z := (0 : Int)) J J .p3 J J J e5 J) J<|rF J J J<|n_store_ptr J J J J .p1 J J<|rN<|tSR<|rM J J<|rM J J<|n_buildSliceL (xs := ([(0 : Int),(1 : Int),(1 : Int),(2 : Int)]).map I) J J J J J J<|bndE h fun v25 e6 h=>t_call0 J (Stream_Pick_c e6) (CoL.refl _) (.cons .p0 .nil) J J<|ARun.qv (q_addw J J) J<|rA J J<|rN<|tSR<|rM J J<|rF J J J<|rL J J .p1 J J<|ARun.qv (q_max3 J J J) J<|rA J J<|rN<|tSR<|rM J J<|rF J J J<|n_store_ptr J J J J .p1 J J<|rN<|tSR<|rM J J<|ARun.qv (q_load_ptr_all J J .p1 J) J<|n_buildSliceL (xs := ([(⟨v22.1,v24,max (max (w64 (n16 + v25.1)) v24) (1 : Int),v20.1.At,v20.1.Kind,v20.1.Device,v20.1.Model,v20.1.Tenant,v20.1.Serial,v20.1.Key,v20.1.Name,v20.1.Value,v20.1.Until,v20.1.Firmware⟩ : EventS)]).map EventS.av) J J J J J J<|bndE h fun l26 e7 h=>t_append (g := EventS.av) J J J J J J J J (.list _) e7 (fun _=>.p2) J fun b27=>rA J J<|rN<|tR<|rM J J<|rM J J<|n_buildSliceL (xs := ([(0 : Int),(1 : Int),(5 : Int),(20 : Int)]).map I) J J J J J J<|bndE h fun v28 e8 h=>t_call0 J (Stream_Pick_c e8) (CoL.refl _) (.cons .p0 .nil) J J<|ARun.qv (q_addw J J) J<|rA J J<|rN<|ATodo.blk<|tR<|ARun.qv (q_addw J J) J<|rM J J<|rN<|ATodo.stop<|?_
      obtain rfl := Option.some.inj h
      exact hJ1 _ _ J<|ImpX.lq [0,1,1] ⟨b27,J⟩ J J
    · refine have h := iteF hc h; ATodo.exit J<|have h := outL h hA1; ?_
      unfold Stream_Events_k3 at h
      refine tSR<|rM J J<|bndE h fun v29 e9 h=>t_call0 J (slices_SortStableFunc_Event_Event_c (fun e=>Q_EventOrder_c e) (lenOk_f e9)) (CoL.refl _) (.cons .p1 .nil) J J<|ARun.ghost<|ImpX.eqs (s := 5) (av' := .sl 16 b13 0 v29.length) J (congrArg (AV.sl 16 b13 0) (lenOk_l e9))<|ImpX.here<|ARun.ghost<|ImpX.eqs (s := 55) (av' := .sl 16 b13 0 v29.length) J (congrArg (AV.sl 16 b13 0) (lenOk_l e9))<|ImpX.here<|rN<|tS<|tS<|ATodo.cut (fun σ'=>∃ (l30 : List Int) (n31 : Int) (c32 : Bool),Stream_Events_j1 v29 l30 n31 c32 = some r ∧ σ' = ⟨111,[(0,.ptr b_0 0),(5,.sl 16 b13 0 v29.length),(63,.bool c32)],[(b_0,.cells [lE0 l30,I n31]),(b13,aE4 v29)]⟩) ?_ ?_
      · refine tR<|rM J J<|ARun.qv (t_len_sl J) J<|ARun.qv (q_gtr J J) J<|rM J J<|ARun.guard_dt J J J (fun hc=>?_) (fun hc=>?_)
        · exact have h := iteT hc h; rM J J<|rY J J J<|bndE h fun v33 e10 h=>t_call0 J (Stream_Flip_c e10) (CoL.refl _) (.cons .p1 .nil) J J<|rT J J J<|rN<|ATodo.stop<|ImpX.lq [0,0] ⟨v33.2.L,v33.2.at_,v33.1,h,J⟩ J J
        · exact have h := iteF hc h; rG J J J J<|rE J J J<|rN<|ATodo.stop<|ImpX.lq [1,0] ⟨l11,n12,false,h,J⟩ J J
      · rintro σ' ⟨l30, n31, c32, h, rfl⟩
        unfold Stream_Events_j1 at h
        refine ATodo.cut (fun σ'=>∃ (l34 : List Int) (n35 : Int) (l36 : List EventS),Stream_Events_j2 l34 n35 l36 = some r ∧ σ' = ⟨111,[(5,.sl 16 b13 0 l36.length)],[(b_0,.cells [lE0 l34,I n35]),(b13,aE4 l36)]⟩) ?_ ?_
        · refine ATodo.cond J (fun hc=>?_) (fun hc=>?_)
          · refine have h := iteT hc h; tSR<|rM J J<|rM J J<|rM J J<|ARun.qv (t_len_sl J) J<|bndE h fun v37 e11 h=>t_call0 J (Stream_Next_c e11) (CoL.refl _) (.cons .p0 .nil) J J<|bndE h fun v38 e12 h=>ARun.qv (t_index_sl J J J e12) J<|rA J J<|rN<|bndE h fun v39 e13 h=>bndE h fun v40 e14 h=>bndE h fun v41 e15 h=>bndE h fun v42 e16 h=>ATodo.regionT (id := 19) (A := [0,0,0,0,0,0,32,96,224,480,1008,0,0,4096,12288,28672,61440,131056,0,0,524288,1572864,3670016,7864320,16777200,0,0,67108864,201326592,469762048,1006632960,2147483632,4294967281,8589934577,17179869169,34359738355,68719476723,137438953459,274877906935,549755813879,1099511627767,2199023255551,4398046511103,8796093022207]) (H0 := [(b_0,.cells [lE0 v37.2.L,I v37.2.at_]),(b13,aE4 v29)]) (HH := fun β=>[(b_0,.cells [lE0 v42.2.L,I v42.2.at_]),(b13,aE4 (((v29.set v37.1.toNat (⟨v39.1,v38.No,v38.Clock,v38.At,v38.Kind,v38.Device,v38.Model,v38.Tenant,v38.Serial,v38.Key,v38.Name,v38.Value,v38.Until,v38.Firmware⟩ : EventS)).set v37.1.toNat (⟨v39.1,v40.1,v38.Clock,v38.At,v38.Kind,v38.Device,v38.Model,v38.Tenant,v38.Serial,v38.Key,v38.Name,v38.Value,v38.Until,v38.Firmware⟩ : EventS)).set v37.1.toNat (⟨v39.1,v40.1,v41.1,v38.At,v38.Kind,v38.Device,v38.Model,v38.Tenant,v38.Serial,v38.Key,v38.Name,v38.Value,v38.Until,v38.Firmware⟩ : EventS)))]) 41 mixed J (by kernel_rfl) (by kernel_rfl) [⟨none,some 10,[],fun _=>(b_0,.cells [lE0 v37.2.L,I v37.2.at_]),none,[]⟩,⟨none,some 34,[8,15,22,29],fun _=>(b13,aE4 v29),none,[]⟩,⟨some 10,some 17,[],fun _=>(b_0,.cells [lE0 v39.2.L,I v39.2.at_]),none,[]⟩,⟨some 17,some 24,[],fun _=>(b_0,.cells [lE0 v40.2.L,I v40.2.at_]),none,[]⟩,⟨some 24,some 31,[],fun _=>(b_0,.cells [lE0 v41.2.L,I v41.2.at_]),none,[]⟩,⟨some 31,none,[],fun _=>(b_0,.cells [lE0 v42.2.L,I v42.2.at_]),none,[]⟩,⟨some 34,some 37,[],fun _=>(b13,aE4 (v29.set v37.1.toNat (⟨v39.1,v38.No,v38.Clock,v38.At,v38.Kind,v38.Device,v38.Model,v38.Tenant,v38.Serial,v38.Key,v38.Name,v38.Value,v38.Until,v38.Firmware⟩ : EventS))),none,[]⟩,⟨some 37,some 40,[],fun _=>(b13,aE4 ((v29.set v37.1.toNat (⟨v39.1,v38.No,v38.Clock,v38.At,v38.Kind,v38.Device,v38.Model,v38.Tenant,v38.Serial,v38.Key,v38.Name,v38.Value,v38.Until,v38.Firmware⟩ : EventS)).set v37.1.toNat (⟨v39.1,v40.1,v38.Clock,v38.At,v38.Kind,v38.Device,v38.Model,v38.Tenant,v38.Serial,v38.Key,v38.Name,v38.Value,v38.Until,v38.Firmware⟩ : EventS))),none,[]⟩,⟨some 40,none,[],fun _=>(b13,aE4 (((v29.set v37.1.toNat (⟨v39.1,v38.No,v38.Clock,v38.At,v38.Kind,v38.Device,v38.Model,v38.Tenant,v38.Serial,v38.Key,v38.Name,v38.Value,v38.Until,v38.Firmware⟩ : EventS)).set v37.1.toNat (⟨v39.1,v40.1,v38.Clock,v38.At,v38.Kind,v38.Device,v38.Model,v38.Tenant,v38.Serial,v38.Key,v38.Name,v38.Value,v38.Until,v38.Firmware⟩ : EventS)).set v37.1.toNat (⟨v39.1,v40.1,v41.1,v38.At,v38.Kind,v38.Device,v38.Model,v38.Tenant,v38.Serial,v38.Key,v38.Name,v38.Value,v38.Until,v38.Firmware⟩ : EventS))),none,[]⟩] [] J (by kernel_rfl) J (.cons .p0 (.cons .p0 .nil)) (fun _=>J)<|AT.am 8 J J<|AM.qv (q_move J) J<|AM.qv (q_move J) J<|AM.qv (q_move J) J<|AM.qv (q_move J) J<|AM.qv (q_move J) J<|AM.qv (q_move J) J<|AM.qv (q_nilCheck_aptr J) J<|AM.qv (t_field_aptr J J) J<|AM.nil<|AT.rd (Rs := [(b13,aE4 v29)]) (fun _=>J) J (fun _=>J) (fun _=>J) (t_load_aptr (g := EventS.av) J J (.inl .p0) e12 J) J<|AT.am 1 J J<|AM.buildSliceL (xs := ([v38.Hub,([] : Str),([104,122] : Str)]).map AV.str) J J J J J J<|AM.nil<|AT.runS (av := .str v39.1) (Ti := [(b_0,.cells [lE0 v37.2.L,I v37.2.at_])]) (Pi := [(b_0,.cells [lE0 v39.2.L,I v39.2.at_])]) (fun _=>J) (fun _=>J) (fun _=>J) J J J ?_ ?_
            · exact t_call0 J (Stream_Some_c e13) (CoL.refl _) (.cons .p0 .nil) J J<|ARun.nil ⟨_,J,J⟩
            refine AT.am 4 J J<|AM.qv (q_move J) J<|AM.qv (q_move J) J<|AM.qv (q_nilCheck_aptr J) J<|AM.qv (t_field_aptr J J) J<|AM.nil<|AT.rd (Rs := [(b13,aE4 v29)]) (fun _=>J) J (fun _=>J) (fun _=>J) (t_load_aptr (g := EventS.av) J J (.inl .p0) e12 J) J<|AT.am 1 J J<|AM.buildSliceL (xs := ([v38.No,(0 : Int),(9 : Int)]).map I) J J J J J J<|AM.nil<|AT.runS (av := I v40.1) (Ti := [(b_0,.cells [lE0 v39.2.L,I v39.2.at_])]) (Pi := [(b_0,.cells [lE0 v40.2.L,I v40.2.at_])]) (fun _=>J) (fun _=>J) (fun _=>J) J J J ?_ ?_
            · exact t_call0 J (Stream_Pick_c e14) (CoL.refl _) (.cons .p0 .nil) J J<|ARun.nil ⟨_,J,J⟩
            refine AT.am 4 J J<|AM.qv (q_move J) J<|AM.qv (q_move J) J<|AM.qv (q_nilCheck_aptr J) J<|AM.qv (t_field_aptr J J) J<|AM.nil<|AT.rd (Rs := [(b13,aE4 v29)]) (fun _=>J) J (fun _=>J) (fun _=>J) (t_load_aptr (g := EventS.av) J J (.inl .p0) e12 J) J<|AT.am 1 J J<|AM.buildSliceL (xs := ([v38.Clock,(0 : Int),(1 : Int)]).map I) J J J J J J<|AM.nil<|AT.runS (av := I v41.1) (Ti := [(b_0,.cells [lE0 v40.2.L,I v40.2.at_])]) (Pi := [(b_0,.cells [lE0 v41.2.L,I v41.2.at_])]) (fun _=>J) (fun _=>J) (fun _=>J) J J J ?_ ?_
            · exact t_call0 J (Stream_Pick_c e15) (CoL.refl _) (.cons .p0 .nil) J J<|ARun.nil ⟨_,J,J⟩
            refine AT.am 4 J J<|AM.qv (q_move J) J<|AM.qv (q_move J) J<|AM.qv (q_nilCheck_aptr J) J<|AM.qv (t_field_aptr J J) J<|AM.nil<|AT.rd (Rs := [(b13,aE4 v29)]) (fun _=>J) J (fun _=>J) (fun _=>J) (t_load_aptr (g := EventS.av) J J (.inl .p0) e12 J) J<|AT.am 1 J J<|AM.buildSliceL (xs := ([v38.At,(-1 : Int),(345686400000 : Int)]).map I) J J J J J J<|AM.nil<|AT.runS (av := I v42.1) (Ti := [(b_0,.cells [lE0 v41.2.L,I v41.2.at_])]) (Pi := [(b_0,.cells [lE0 v42.2.L,I v42.2.at_])]) (fun _=>J) (fun _=>J) (fun _=>J) J J J ?_ ?_
            · exact t_call0 J (Stream_Pick_c e16) (CoL.refl _) (.cons .p0 .nil) J J<|ARun.nil ⟨_,J,J⟩
            refine AT.am 2 J J<|AM.qv (q_nilCheck_aptr J) J<|AM.qv (t_field_aptr J J) J<|AM.nil<|AT.run0 (Ti := [(b13,aE4 v29)]) (Pi := [(b13,aE4 (v29.set v37.1.toNat (⟨v39.1,v38.No,v38.Clock,v38.At,v38.Kind,v38.Device,v38.Model,v38.Tenant,v38.Serial,v38.Key,v38.Name,v38.Value,v38.Until,v38.Firmware⟩ : EventS)))]) (fun _=>J) (fun _=>J) (fun _=>J) J J ?_ ?_
            · exact t_store_aptr1 (g := EventS.av) (el' := (⟨v39.1,v38.No,v38.Clock,v38.At,v38.Kind,v38.Device,v38.Model,v38.Tenant,v38.Serial,v38.Key,v38.Name,v38.Value,v38.Until,v38.Firmware⟩ : EventS)) J J J J e12 J .p0 J<|ARun.nil ⟨_,J⟩
            refine AT.am 2 J J<|AM.qv (q_nilCheck_aptr J) J<|AM.qv (t_field_aptr J J) J<|AM.nil<|AT.run0 (Ti := [(b13,aE4 (v29.set v37.1.toNat (⟨v39.1,v38.No,v38.Clock,v38.At,v38.Kind,v38.Device,v38.Model,v38.Tenant,v38.Serial,v38.Key,v38.Name,v38.Value,v38.Until,v38.Firmware⟩ : EventS)))]) (Pi := [(b13,aE4 ((v29.set v37.1.toNat (⟨v39.1,v38.No,v38.Clock,v38.At,v38.Kind,v38.Device,v38.Model,v38.Tenant,v38.Serial,v38.Key,v38.Name,v38.Value,v38.Until,v38.Firmware⟩ : EventS)).set v37.1.toNat (⟨v39.1,v40.1,v38.Clock,v38.At,v38.Kind,v38.Device,v38.Model,v38.Tenant,v38.Serial,v38.Key,v38.Name,v38.Value,v38.Until,v38.Firmware⟩ : EventS)))]) (fun _=>J) (fun _=>J) (fun _=>J) J J ?_ ?_
            · exact t_store_aptr1 (g := EventS.av) (el' := (⟨v39.1,v40.1,v38.Clock,v38.At,v38.Kind,v38.Device,v38.Model,v38.Tenant,v38.Serial,v38.Key,v38.Name,v38.Value,v38.Until,v38.Firmware⟩ : EventS)) J J J J (idx_set_self (v := (⟨v39.1,v38.No,v38.Clock,v38.At,v38.Kind,v38.Device,v38.Model,v38.Tenant,v38.Serial,v38.Key,v38.Name,v38.Value,v38.Until,v38.Firmware⟩ : EventS)) e12) J .p0 J<|ARun.nil ⟨_,J⟩
            refine AT.am 2 J J<|AM.qv (q_nilCheck_aptr J) J<|AM.qv (t_field_aptr J J) J<|AM.nil<|AT.run0 (Ti := [(b13,aE4 ((v29.set v37.1.toNat (⟨v39.1,v38.No,v38.Clock,v38.At,v38.Kind,v38.Device,v38.Model,v38.Tenant,v38.Serial,v38.Key,v38.Name,v38.Value,v38.Until,v38.Firmware⟩ : EventS)).set v37.1.toNat (⟨v39.1,v40.1,v38.Clock,v38.At,v38.Kind,v38.Device,v38.Model,v38.Tenant,v38.Serial,v38.Key,v38.Name,v38.Value,v38.Until,v38.Firmware⟩ : EventS)))]) (Pi := [(b13,aE4 (((v29.set v37.1.toNat (⟨v39.1,v38.No,v38.Clock,v38.At,v38.Kind,v38.Device,v38.Model,v38.Tenant,v38.Serial,v38.Key,v38.Name,v38.Value,v38.Until,v38.Firmware⟩ : EventS)).set v37.1.toNat (⟨v39.1,v40.1,v38.Clock,v38.At,v38.Kind,v38.Device,v38.Model,v38.Tenant,v38.Serial,v38.Key,v38.Name,v38.Value,v38.Until,v38.Firmware⟩ : EventS)).set v37.1.toNat (⟨v39.1,v40.1,v41.1,v38.At,v38.Kind,v38.Device,v38.Model,v38.Tenant,v38.Serial,v38.Key,v38.Name,v38.Value,v38.Until,v38.Firmware⟩ : EventS)))]) (fun _=>J) (fun _=>J) (fun _=>J) J J ?_ ?_
            · exact t_store_aptr1 (g := EventS.av) (el' := (⟨v39.1,v40.1,v41.1,v38.At,v38.Kind,v38.Device,v38.Model,v38.Tenant,v38.Serial,v38.Key,v38.Name,v38.Value,v38.Until,v38.Firmware⟩ : EventS)) J J J J (idx_set_self (v := (⟨v39.1,v40.1,v38.Clock,v38.At,v38.Kind,v38.Device,v38.Model,v38.Tenant,v38.Serial,v38.Key,v38.Name,v38.Value,v38.Until,v38.Firmware⟩ : EventS)) (idx_set_self (v := (⟨v39.1,v38.No,v38.Clock,v38.At,v38.Kind,v38.Device,v38.Model,v38.Tenant,v38.Serial,v38.Key,v38.Name,v38.Value,v38.Until,v38.Firmware⟩ : EventS)) e12)) J .p0 J<|ARun.nil ⟨_,J⟩
            exact AT.nilN (fun _=>J) fun β=>ARun.ghost<|ImpX.eqs (s := 5) (av' := .sl 16 b13 0 (((v29.set v37.1.toNat (⟨v39.1,v38.No,v38.Clock,v38.At,v38.Kind,v38.Device,v38.Model,v38.Tenant,v38.Serial,v38.Key,v38.Name,v38.Value,v38.Until,v38.Firmware⟩ : EventS)).set v37.1.toNat (⟨v39.1,v40.1,v38.Clock,v38.At,v38.Kind,v38.Device,v38.Model,v38.Tenant,v38.Serial,v38.Key,v38.Name,v38.Value,v38.Until,v38.Firmware⟩ : EventS)).set v37.1.toNat (⟨v39.1,v40.1,v41.1,v38.At,v38.Kind,v38.Device,v38.Model,v38.Tenant,v38.Serial,v38.Key,v38.Name,v38.Value,v38.Until,v38.Firmware⟩ : EventS)).length) J (by simp)<|ImpX.here<|ARun.ghost<|ImpX.eqs (s := 64) (av' := .sl 16 b13 0 (((v29.set v37.1.toNat (⟨v39.1,v38.No,v38.Clock,v38.At,v38.Kind,v38.Device,v38.Model,v38.Tenant,v38.Serial,v38.Key,v38.Name,v38.Value,v38.Until,v38.Firmware⟩ : EventS)).set v37.1.toNat (⟨v39.1,v40.1,v38.Clock,v38.At,v38.Kind,v38.Device,v38.Model,v38.Tenant,v38.Serial,v38.Key,v38.Name,v38.Value,v38.Until,v38.Firmware⟩ : EventS)).set v37.1.toNat (⟨v39.1,v40.1,v41.1,v38.At,v38.Kind,v38.Device,v38.Model,v38.Tenant,v38.Serial,v38.Key,v38.Name,v38.Value,v38.Until,v38.Firmware⟩ : EventS)).length) J (by simp)<|ImpX.here<|ARun.ghost<|ImpX.eqs (s := 66) (av' := .sl 16 b13 0 (((v29.set v37.1.toNat (⟨v39.1,v38.No,v38.Clock,v38.At,v38.Kind,v38.Device,v38.Model,v38.Tenant,v38.Serial,v38.Key,v38.Name,v38.Value,v38.Until,v38.Firmware⟩ : EventS)).set v37.1.toNat (⟨v39.1,v40.1,v38.Clock,v38.At,v38.Kind,v38.Device,v38.Model,v38.Tenant,v38.Serial,v38.Key,v38.Name,v38.Value,v38.Until,v38.Firmware⟩ : EventS)).set v37.1.toNat (⟨v39.1,v40.1,v41.1,v38.At,v38.Kind,v38.Device,v38.Model,v38.Tenant,v38.Serial,v38.Key,v38.Name,v38.Value,v38.Until,v38.Firmware⟩ : EventS)).length) J (by simp)<|ImpX.here<|ARun.qv (q_nilCheck_aptr J) J<|ARun.qv (t_field_aptr J J) J<|t_store_aptr1 (g := EventS.av) (el' := (⟨v39.1,v40.1,v41.1,v42.1,v38.Kind,v38.Device,v38.Model,v38.Tenant,v38.Serial,v38.Key,v38.Name,v38.Value,v38.Until,v38.Firmware⟩ : EventS)) J J J J (idx_set_self (v := (⟨v39.1,v40.1,v41.1,v38.At,v38.Kind,v38.Device,v38.Model,v38.Tenant,v38.Serial,v38.Key,v38.Name,v38.Value,v38.Until,v38.Firmware⟩ : EventS)) (idx_set_self (v := (⟨v39.1,v40.1,v38.Clock,v38.At,v38.Kind,v38.Device,v38.Model,v38.Tenant,v38.Serial,v38.Key,v38.Name,v38.Value,v38.Until,v38.Firmware⟩ : EventS)) (idx_set_self (v := (⟨v39.1,v38.No,v38.Clock,v38.At,v38.Kind,v38.Device,v38.Model,v38.Tenant,v38.Serial,v38.Key,v38.Name,v38.Value,v38.Until,v38.Firmware⟩ : EventS)) e12))) J .p1 J<|ARun.ghost<|ImpX.eqs (s := 5) (av' := .sl 16 b13 0 ((((v29.set v37.1.toNat (⟨v39.1,v38.No,v38.Clock,v38.At,v38.Kind,v38.Device,v38.Model,v38.Tenant,v38.Serial,v38.Key,v38.Name,v38.Value,v38.Until,v38.Firmware⟩ : EventS)).set v37.1.toNat (⟨v39.1,v40.1,v38.Clock,v38.At,v38.Kind,v38.Device,v38.Model,v38.Tenant,v38.Serial,v38.Key,v38.Name,v38.Value,v38.Until,v38.Firmware⟩ : EventS)).set v37.1.toNat (⟨v39.1,v40.1,v41.1,v38.At,v38.Kind,v38.Device,v38.Model,v38.Tenant,v38.Serial,v38.Key,v38.Name,v38.Value,v38.Until,v38.Firmware⟩ : EventS)).set v37.1.toNat (⟨v39.1,v40.1,v41.1,v42.1,v38.Kind,v38.Device,v38.Model,v38.Tenant,v38.Serial,v38.Key,v38.Name,v38.Value,v38.Until,v38.Firmware⟩ : EventS)).length) J (by rw [List.length_set])<|ImpX.here<|ARun.ghost<|ImpX.eqs (s := 64) (av' := .sl 16 b13 0 ((((v29.set v37.1.toNat (⟨v39.1,v38.No,v38.Clock,v38.At,v38.Kind,v38.Device,v38.Model,v38.Tenant,v38.Serial,v38.Key,v38.Name,v38.Value,v38.Until,v38.Firmware⟩ : EventS)).set v37.1.toNat (⟨v39.1,v40.1,v38.Clock,v38.At,v38.Kind,v38.Device,v38.Model,v38.Tenant,v38.Serial,v38.Key,v38.Name,v38.Value,v38.Until,v38.Firmware⟩ : EventS)).set v37.1.toNat (⟨v39.1,v40.1,v41.1,v38.At,v38.Kind,v38.Device,v38.Model,v38.Tenant,v38.Serial,v38.Key,v38.Name,v38.Value,v38.Until,v38.Firmware⟩ : EventS)).set v37.1.toNat (⟨v39.1,v40.1,v41.1,v42.1,v38.Kind,v38.Device,v38.Model,v38.Tenant,v38.Serial,v38.Key,v38.Name,v38.Value,v38.Until,v38.Firmware⟩ : EventS)).length) J (by rw [List.length_set])<|ImpX.here<|ARun.ghost<|ImpX.eqs (s := 66) (av' := .sl 16 b13 0 ((((v29.set v37.1.toNat (⟨v39.1,v38.No,v38.Clock,v38.At,v38.Kind,v38.Device,v38.Model,v38.Tenant,v38.Serial,v38.Key,v38.Name,v38.Value,v38.Until,v38.Firmware⟩ : EventS)).set v37.1.toNat (⟨v39.1,v40.1,v38.Clock,v38.At,v38.Kind,v38.Device,v38.Model,v38.Tenant,v38.Serial,v38.Key,v38.Name,v38.Value,v38.Until,v38.Firmware⟩ : EventS)).set v37.1.toNat (⟨v39.1,v40.1,v41.1,v38.At,v38.Kind,v38.Device,v38.Model,v38.Tenant,v38.Serial,v38.Key,v38.Name,v38.Value,v38.Until,v38.Firmware⟩ : EventS)).set v37.1.toNat (⟨v39.1,v40.1,v41.1,v42.1,v38.Kind,v38.Device,v38.Model,v38.Tenant,v38.Serial,v38.Key,v38.Name,v38.Value,v38.Until,v38.Firmware⟩ : EventS)).length) J (by rw [List.length_set])<|ImpX.here<|rN<|ATodo.stop<|ImpX.lq [0,0] ⟨v42.2.L,v42.2.at_,(((v29.set v37.1.toNat (⟨v39.1,v38.No,v38.Clock,v38.At,v38.Kind,v38.Device,v38.Model,v38.Tenant,v38.Serial,v38.Key,v38.Name,v38.Value,v38.Until,v38.Firmware⟩ : EventS)).set v37.1.toNat (⟨v39.1,v40.1,v38.Clock,v38.At,v38.Kind,v38.Device,v38.Model,v38.Tenant,v38.Serial,v38.Key,v38.Name,v38.Value,v38.Until,v38.Firmware⟩ : EventS)).set v37.1.toNat (⟨v39.1,v40.1,v41.1,v38.At,v38.Kind,v38.Device,v38.Model,v38.Tenant,v38.Serial,v38.Key,v38.Name,v38.Value,v38.Until,v38.Firmware⟩ : EventS)).set v37.1.toNat (⟨v39.1,v40.1,v41.1,v42.1,v38.Kind,v38.Device,v38.Model,v38.Tenant,v38.Serial,v38.Key,v38.Name,v38.Value,v38.Until,v38.Firmware⟩ : EventS),h,J⟩ J J
          · exact have h := iteFb hc h; tK<|ATodo.stop<|ImpX.lq [0,0] ⟨l30,n31,v29,h,J⟩ J J
        · rintro σ' ⟨l34, n35, l36, h, rfl⟩
          unfold Stream_Events_j2 at h
          refine tSR<|rM J J<|rA J J<|rN<|ATodo.ret<|?_
          obtain rfl := Option.some.inj h
          exact ImpX.here ⟨_,.cons (.tmp _ _ J) .nil,_,.cons .p0 (.cons .p0 .nil),⟨b13,J,J⟩⟩

theorem slices_Clone_Event_Event_c [GI : GTab] {p0x0 : List EventS} {r : (List EventS)} (h : slices_Clone_Event_Event p0x0 = some r) : ACall Tryz.prog 29 [.list 16 (p0x0.map EventS.av)] [] (T1 (fun d_0=>[(d_0,.arr 16 (r.map EventS.av))]) (fun d_0=>.sl 16 d_0 0 r.length)) := by
  unfold slices_Clone_Event_Event at h
  refine ACall.lessH ?_
  refine ACall.bodyN Tryz.func29 J Tryz.ntmps29 Tryz.results29 J J ?_
  refine ATodo.seq ?_
  refine ATodo.region ?_
  refine ARun.qv (q_assign J) J ?_
  refine ARun.nil ?_
  refine ATodo.seq ?_
  refine ATodo.seq ?_
  refine ATodo.region ?_
  refine ARun.qv (q_move J) J ?_
  refine r_eqnil J J J J (fun c hc=>?_)
  refine ARun.nil ?_
  refine ATodo.cond J (fun hT=>?_) (fun hF=>?_)
  · obtain rfl := app_nil_some h (List.map_eq_nil_iff.1 (hc hT))
    refine ATodo.seq ?_
    refine ATodo.region ?_
    refine ARun.qv (q_assign J) J ?_
    refine ARun.nil ?_
    refine ATodo.ret ?_
    refine ImpX.arr (s := 2) 16 J (fun b1=>?_)
    exact ImpX.here ⟨_,.cons (.tmp _ _ J) .nil,_,.cons .here .nil,⟨b1,J,J⟩⟩
  · refine ATodo.skip ?_
    refine ATodo.seq ?_
    refine ATodo.region ?_
    refine n_buildSlice (xs := ([] : List EventS).map EventS.av) J J J J J J (fun b2=>?_)
    refine ARun.qv (q_move J) J ?_
    refine t_append (g := EventS.av) (Xs := []) J J J J J J J J (.list _) h (fun _=>.here) J (fun b3=>?_)
    refine ARun.qv (q_assign J) J ?_
    refine ARun.nil ?_
    refine ATodo.ret ?_
    exact ImpX.here ⟨_,.cons (.tmp _ _ J) .nil,_,.cons .here .nil,⟨b3,J,J⟩⟩

theorem Stream_SeenHubs_c [GI : GTab] {b_0 : Bk} {p0x0 : Fleetmake_Stream} {r : (List Seen) × Fleetmake_Stream} (h : Stream_SeenHubs p0x0 = some r) : ACall Tryz.prog 30 [.ptr b_0 0] [(b_0,.cells [lE0 p0x0.L,I p0x0.at_])] (T1 (fun d_0=>[(b_0,.cells [lE0 r.2.L,I r.2.at_]),(d_0,aE6 r.1)]) (fun d_0=>.sl 2 d_0 0 r.1.length)) := by
  unfold Stream_SeenHubs at h
  refine ACall.lessH ?_
  refine ACall.bodyN Tryz.func30 J Tryz.ntmps30 Tryz.results30 J J ?_
  refine tSR<|rA J J<|rN<|tSR<|rA J J<|rN<|tS<|tSR<|n_buildSliceL (xs := ([([104,97] : Str),([104,98] : Str),([104,99] : Str)]).map AV.str) J J J J J J<|ARun.qv (t_len J) J<|rM J J<|rN<|ATodo.block<|ATodo.loopI (fun x : (List Int) × Int × (List Seen) × Int=>Stream_SeenHubs_b1 x.1 x.2.1 x.2.2.1 x.2.2.2) (fun x σ'=>∃ (b8 : Bk),σ' = ⟨34,[(0,.ptr b_0 0),(3,.sl 2 b8 0 x.2.2.1.length),(6,lE1 [([104,97] : Str),([104,98] : Str),([104,99] : Str)]),(7,I ([([104,97] : Str),([104,98] : Str),([104,99] : Str)].length : Int)),(8,I x.2.2.2)],[(b_0,.cells [lE0 x.1,I x.2.1]),(b8,aE6 x.2.2.1)]⟩) h ?_ ?_
  · exact ImpX.arr (s := 3) 2 J fun b11=>ImpX.lq [1,0] ⟨b11,J⟩ J J
  · intro x z1 σ' J1 hmk h hJ1 hA1
    obtain ⟨l6, n7, l9, n10⟩ := x
    obtain ⟨b8, rfl⟩ := hmk
    replace h : Stream_SeenHubs_b1 l6 n7 l9 n10 = some z1 := h
    unfold Stream_SeenHubs_b1 at h
    refine tSR<|ARun.qv (q_lss J J) J<|rN<|tS<|ATodo.cond_d J (fun hc=>?_) (fun hc=>?_)
    · refine have h := iteT hc h; tK<|tS<|ATodo.block<|tSR<|bndE h fun v12 e1 h=>ARun.qv (t_index J J J e1 J J) J<|ARun.qv (q_load_rptr J J J) J<|rA J J<|rN<|tSR<|rM J J<|bndE h fun v13 e2 h=>t_call0 J (Stream_Flip_c e2) (CoL.refl _) (.cons .p0 .nil) J J<|rN<|ATodo.cut (fun σ'=>∃ (b16 : Bk) (l14 : List Int) (n15 : Int) (l17 : List Seen),Stream_SeenHubs_j1 n10 l14 n15 l17 = some z1 ∧ σ' = ⟨34,[(0,.ptr b_0 0),(3,.sl 2 b16 0 l17.length),(6,lE1 [([104,97] : Str),([104,98] : Str),([104,99] : Str)]),(7,I ([([104,97] : Str),([104,98] : Str),([104,99] : Str)].length : Int)),(8,I n10)],[(b_0,.cells [lE0 l14,I n15]),(b16,aE6 l17)]⟩) ?_ ?_
      · refine ATodo.cond J (fun hc=>?_) (fun hc=>?_)
        · exact have h := iteT hc h; tR<|rM J J<|rM J J<|rM J J<|bndE h fun v18 e3 h=>t_call0 J (Stream_Next_c e3) (CoL.refl _) (.cons .p0 .nil) J J<|ARun.qv (n_build J J J J J) J<|n_buildSliceL (xs := ([(⟨v12,v18.1⟩ : Seen)]).map Seen.av) J J J J J J<|bndE h fun l19 e4 h=>t_append (g := Seen.av) J J J J J J J J (.list _) e4 (fun _=>.p1) J fun b20=>rA J J<|rN<|ATodo.stop<|ImpX.lq [0,0] ⟨b20,v18.2.L,v18.2.at_,l19,h,J⟩ J J
        · exact have h := iteFb hc h; tK<|ATodo.stop<|ImpX.lq [0,0] ⟨b8,v13.2.L,v13.2.at_,l9,h,J⟩ J J
      · rintro σ' ⟨b16, l14, n15, l17, h, rfl⟩
        unfold Stream_SeenHubs_j1 at h
        refine ATodo.blk<|tR<|ARun.qv (q_addw J J) J<|rM J J<|rN<|ATodo.stop<|?_
        obtain rfl := Option.some.inj h
        exact hJ1 _ _ J<|ImpX.lq [0,0] ⟨b16,J⟩ J J
    · refine have h := iteF hc h; ATodo.exit J<|have h := outL h hA1; ?_
      unfold Stream_SeenHubs_k3 at h
      refine tS<|tSR<|rM J J<|bndE h fun v21 e5 h=>t_call0 J (Stream_Flip_c e5) (CoL.refl _) (.cons .p0 .nil) J J<|rN<|ATodo.cut (fun σ'=>∃ (b24 : Bk) (l22 : List Int) (n23 : Int) (l25 : List Seen),Stream_SeenHubs_j2 l22 n23 l25 = some r ∧ σ' = ⟨34,[(3,.sl 2 b24 0 l25.length)],[(b_0,.cells [lE0 l22,I n23]),(b24,aE6 l25)]⟩) ?_ ?_
      · refine ATodo.cond J (fun hc=>?_) (fun hc=>?_)
        · exact have h := iteT hc h; tR<|rM J J<|rM J J<|n_buildSliceL (xs := ([([] : Str),([104,97] : Str),([104,122] : Str)]).map AV.str) J J J J J J<|bndE h fun v26 e6 h=>t_call0 J (Stream_Some_c e6) (CoL.refl _) (.cons .p0 .nil) J J<|rM J J<|bndE h fun v27 e7 h=>t_call0 J (Stream_Odd_c e7) (CoL.refl _) (.cons .p0 .nil) J J<|ARun.qv (n_build J J J J J) J<|n_buildSliceL (xs := ([(⟨v26.1,v27.1⟩ : Seen)]).map Seen.av) J J J J J J<|bndE h fun l28 e8 h=>t_append (g := Seen.av) J J J J J J J J (.list _) e8 (fun _=>.p1) J fun b29=>rA J J<|rN<|ATodo.stop<|ImpX.lq [0,0] ⟨b29,v27.2.L,v27.2.at_,l28,h,J⟩ J J
        · exact have h := iteFb hc h; tK<|ATodo.stop<|ImpX.lq [0,0] ⟨b8,v21.2.L,v21.2.at_,l9,h,J⟩ J J
      · rintro σ' ⟨b24, l22, n23, l25, h, rfl⟩
        unfold Stream_SeenHubs_j2 at h
        refine tSR<|rM J J<|rA J J<|rN<|ATodo.ret<|?_
        obtain rfl := Option.some.inj h
        exact ImpX.here ⟨_,.cons (.tmp _ _ J) .nil,_,.cons .p0 (.cons .p0 .nil),⟨b24,J,J⟩⟩

theorem Q_in_c [GI : GTab] {p0x0 : Int} {p1x0 : Int} {p2x0 : Int} {r : Bool} (h : Q_in p0x0 p1x0 p2x0 = r) : Pu Tryz.prog 71 [I p0x0,I p1x0,I p2x0] (.bool r) := by
  unfold Q_in at h
  refine ACall.bodyN Tryz.func71 J Tryz.ntmps71 Tryz.results71 J J ?_
  refine tSR<|rA J J<|rN<|tS<|ATodo.cut (fun σ'=>∃ (c1 : Bool),Q_in_j1 c1 = r ∧ σ' = ⟨15,[(6,.bool c1)],[]⟩) ?_ ?_
  · refine tR<|rM J J<|rM J J<|ARun.qv (q_leq J J) J<|rM J J<|ARun.guard_dt J J J (fun hc=>?_) (fun hc=>?_)
    · rw [andTd hc] at h
      exact rM J J<|rY J J J<|rM J J<|rY J J J<|ARun.qv (q_leq J J) J<|rT J J J<|rA J J<|rN<|ATodo.stop<|ImpX.lq [] ⟨decide (p0x0 ≤ p2x0),h,J⟩ J J
    · rw [andFd hc] at h
      exact rG J J J J<|rG J J J J<|rE J J J<|rA J J<|rN<|ATodo.stop<|ImpX.lq [] ⟨false,h,J⟩ J J
  · rintro σ' ⟨c1, h, rfl⟩
    unfold Q_in_j1 at h
    refine ATodo.ret<|?_
    obtain rfl := h
    exact ImpX.here ⟨_,.cons (.tmp _ _ J) .nil,J⟩

theorem Q_Key_c {p0x0 : Str} {r : Bool} (h : Q_Key p0x0 = some r) : Pu Tryz.prog 70 [.str p0x0] (.bool r) := by
  unfold Q_Key at h
  refine ACall.bodyN Tryz.func70 J Tryz.ntmps70 Tryz.results70 J J ?_
  refine tSR<|rA J J<|rN<|tS<|ATodo.cut (fun σ'=>∃ (c1 : Bool),Q_Key_j1 c1 = some r ∧ σ' = ⟨17,[(2,.bool c1)],[]⟩) ?_ ?_
  · refine tR<|rM J J<|ARun.qv (q_len_str J) J<|r_callp J (Q_in_c J) (CoL.refl _) J<|rM J J<|ARun.guard J J J (fun hc=>?_) (fun hc=>?_)
    · refine have h := iteT hc h; rM J J<|rY J J J<|bndE h fun v2 e1 h=>r_callp J (strings_Trim_c e1) (CoL.refl _) J<|rY J J J<|ARun.qv (q_seq J J) J<|rT J J J<|rM J J<|ARun.guard_dt J J J (fun hc=>?_) (fun hc=>?_)
      · exact have h := iteT hc h; rM J J<|rY J J J<|bndE h fun c3 e2 h=>ARun.qv (t_index_str J J e2) J<|rY J J J<|r_callp J (strings_IndexByte_c J) (CoL.refl _) J<|rY J J J<|ARun.qv (q_geq J J) J<|rT J J J<|rA J J<|rN<|ATodo.stop<|ImpX.lq [] ⟨decide ((0 : Int) ≤ (indexByteI ([97,98,99,100,101,102,103,104,105,106,107,108,109,110,111,112,113,114,115,116,117,118,119,120,121,122] : Str) (c3.toNat : Int))),h,J⟩ J J
      · exact have h := iteF hc h; rG J J J J<|rG J J J J<|rG J J J J<|rE J J J<|rA J J<|rN<|ATodo.stop<|ImpX.lq [] ⟨false,h,J⟩ J J
    · exact have h := iteFb hc h; rG J J J J<|rG J J J J<|rE J J J<|rM J J<|rG J J J J<|rG J J J J<|rG J J J J<|rG J J J J<|rE J J J<|rA J J<|rN<|ATodo.stop<|ImpX.lq [] ⟨false,h,J⟩ J J
  · rintro σ' ⟨c1, h, rfl⟩
    unfold Q_Key_j1 at h
    refine ATodo.ret<|?_
    obtain rfl := Option.some.inj h
    exact ImpX.here ⟨_,.cons (.tmp _ _ J) .nil,J⟩

theorem Q_ModelsFault_1x_c [GI : GTab] {p0x0 : Model} {p1x0 : Model} {r : Bool} (h : Q_ModelsFault_1x p0x0 p1x0 = r) : Pu Tryz.prog 75 [Model.av p0x0,.rptr [.str p1x0.Key,.str p1x0.Prefix,lE2 p1x0.Props]] (.bool r) := by
  unfold Q_ModelsFault_1x at h
  refine ACall.bodyN Tryz.func75 J Tryz.ntmps75 Tryz.results75 J J ?_
  refine tSR<|n_box J J J J fun b1=>rA J J<|rN<|tSR<|rF J J J<|rL J J .p0 J J<|ARun.qv (n_field_rptr J J) J<|ARun.qv (q_load_rptr J J J) J<|ARun.qv (q_seq J J) J<|rA J J<|rN<|ATodo.ret<|?_
  obtain rfl := h
  exact ImpX.here ⟨_,.cons (.tmp _ _ J) .nil,J⟩

theorem slices_IndexFunc_Model_Model_c [GI : GTab] {p0x0 : List Model} {fnb : Model → Option Bool} {fnb_F : FuncId} [IsFn Tryz.prog fnb_F] {fnb_C : List AV} (fnb_h : ∀ {y0 : _} {u : Bool},fnb y0 = some u → Pu Tryz.prog fnb_F (Model.av y0 ::  fnb_C) (.bool u)) {r : Int} (h : slices_IndexFunc_Model_Model p0x0 fnb = some r) : Pu Tryz.prog 141 [lE3 p0x0,.func (.func fnb_F) fnb_C] (I r) := by
  unfold slices_IndexFunc_Model_Model at h
  refine ACall.bodyN Tryz.func141 J Tryz.ntmps141 Tryz.results141 J J ?_
  refine tSR<|rA J J<|rN<|tS<|tSR<|rM J J<|ARun.qv (t_len J) J<|rM J J<|rN<|ATodo.block<|ATodo.loopI (fun x : Int=>slices_IndexFunc_Model_Model_b1 p0x0 fnb x) (fun x σ'=>σ' = ⟨19,[(0,lE3 p0x0),(1,.func (.func fnb_F) fnb_C),(7,I (p0x0.length : Int)),(8,I x)],[]⟩) h ?_ ?_
  · exact ImpX.lq [] J J J
  · intro n2 z1 σ' J1 hmk h hJ1 hA1
    obtain rfl := hmk
    replace h : slices_IndexFunc_Model_Model_b1 p0x0 fnb n2 = some z1 := h
    unfold slices_IndexFunc_Model_Model_b1 at h
    refine tSR<|ARun.qv (q_lss J J) J<|rN<|tS<|ATodo.cond_d J (fun hc=>?_) (fun hc=>?_)
    · refine have h := iteT hc h; tK<|tS<|ATodo.block<|tSR<|rM J J<|rA J J<|rN<|tSR<|rM J J<|rM J J<|rM J J<|bndE h fun v3 e1 h=>ARun.qv (t_index J J J e1 J J) J<|ARun.qv (q_load_rptr_agg J J J) J<|bndE h fun v4 e2 h=>r_callvp J J (fnb_h e2) (CoL.refl _) J<|rN<|ATodo.cond J (fun hc=>?_) (fun hc=>?_)
      · refine have h := iteT hc h; tSR<|rM J J<|rA J J<|rN<|ATodo.ret<|have h := outL h hA1; ?_
        obtain rfl := Option.some.inj h
        exact ImpX.here ⟨_,.cons (.tmp _ _ J) .nil,J⟩
      · refine have h := iteFb hc h; tK<|ATodo.blk<|tR<|ARun.qv (q_addw J J) J<|rM J J<|rN<|ATodo.stop<|?_
        obtain rfl := Option.some.inj h
        exact hJ1 _ _ J<|ImpX.lq [] J J J
    · refine have h := iteF hc h; ATodo.exit J<|have h := outL h hA1; tSR<|rA J J<|rN<|ATodo.ret<|?_
      obtain rfl := Option.some.inj h
      exact ImpX.here ⟨_,.cons (.tmp _ _ J) .nil,J⟩

theorem slices_ContainsFunc_Model_Model_c [GI : GTab] {p0x0 : List Model} {fnb : Model → Option Bool} {fnb_F : FuncId} [IsFn Tryz.prog fnb_F] {fnb_C : List AV} (fnb_h : ∀ {y0 : _} {u : Bool},fnb y0 = some u → Pu Tryz.prog fnb_F (Model.av y0 ::  fnb_C) (.bool u)) {r : Bool} (h : slices_ContainsFunc_Model_Model p0x0 fnb = some r) : Pu Tryz.prog 74 [lE3 p0x0,.func (.func fnb_F) fnb_C] (.bool r) := by
  unfold slices_ContainsFunc_Model_Model at h
  refine ACall.bodyN Tryz.func74 J Tryz.ntmps74 Tryz.results74 J J ?_
  refine tSR<|rA J J<|rN<|tSR<|rM J J<|rM J J<|bndE h fun v1 e1 h=>r_callpB J (slices_IndexFunc_Model_Model_c fnb_h e1) (.cons (.co (.refl _)) (.cons (.co (.refl _)) .nil)) J J<|ARun.qv (q_geq J J) J<|rA J J<|rN<|ATodo.ret<|?_
  obtain rfl := Option.some.inj h
  exact ImpX.here ⟨_,.cons (.tmp _ _ J) .nil,J⟩

theorem Q_PropName_1x_c {p0x0 : Str} {r : Bool} (h : Q_PropName_1x p0x0 = some r) : Pu Tryz.prog 144 [.str p0x0] (.bool r) := by
  unfold Q_PropName_1x at h
  refine ACall.bodyN Tryz.func144 J Tryz.ntmps144 Tryz.results144 J J ?_
  refine tSR<|rA J J<|rN<|tSR<|rM J J<|bndE h fun v1 e1 h=>r_callp J (Q_Key_c e1) (CoL.refl _) J<|ARun.qv (q_not J) J<|rA J J<|rN<|ATodo.ret<|?_
  obtain rfl := Option.some.inj h
  exact ImpX.here ⟨_,.cons (.tmp _ _ J) .nil,J⟩

theorem slices_IndexFunc_string_string_c [GI : GTab] {p0x0 : List Str} {fnb : Str → Option Bool} {fnb_F : FuncId} [IsFn Tryz.prog fnb_F] {fnb_C : List AV} (fnb_h : ∀ {y0 : _} {u : Bool},fnb y0 = some u → Pu Tryz.prog fnb_F (.str y0 ::  fnb_C) (.bool u)) {r : Int} (h : slices_IndexFunc_string_string p0x0 fnb = some r) : Pu Tryz.prog 195 [lE1 p0x0,.func (.func fnb_F) fnb_C] (I r) := by
  unfold slices_IndexFunc_string_string at h
  refine ACall.bodyN Tryz.func195 J Tryz.ntmps195 Tryz.results195 J J ?_
  refine tSR<|rA J J<|rN<|tS<|tSR<|rM J J<|ARun.qv (t_len J) J<|rM J J<|rN<|ATodo.block<|ATodo.loopI (fun x : Int=>slices_IndexFunc_string_string_b1 p0x0 fnb x) (fun x σ'=>σ' = ⟨19,[(0,lE1 p0x0),(1,.func (.func fnb_F) fnb_C),(7,I (p0x0.length : Int)),(8,I x)],[]⟩) h ?_ ?_
  · exact ImpX.lq [] J J J
  · intro n2 z1 σ' J1 hmk h hJ1 hA1
    obtain rfl := hmk
    replace h : slices_IndexFunc_string_string_b1 p0x0 fnb n2 = some z1 := h
    unfold slices_IndexFunc_string_string_b1 at h
    refine tSR<|ARun.qv (q_lss J J) J<|rN<|tS<|ATodo.cond_d J (fun hc=>?_) (fun hc=>?_)
    · refine have h := iteT hc h; tK<|tS<|ATodo.block<|tSR<|rM J J<|rA J J<|rN<|tSR<|rM J J<|rM J J<|rM J J<|bndE h fun v3 e1 h=>ARun.qv (t_index J J J e1 J J) J<|ARun.qv (q_load_rptr J J J) J<|bndE h fun v4 e2 h=>r_callvp J J (fnb_h e2) (CoL.refl _) J<|rN<|ATodo.cond J (fun hc=>?_) (fun hc=>?_)
      · refine have h := iteT hc h; tSR<|rM J J<|rA J J<|rN<|ATodo.ret<|have h := outL h hA1; ?_
        obtain rfl := Option.some.inj h
        exact ImpX.here ⟨_,.cons (.tmp _ _ J) .nil,J⟩
      · refine have h := iteFb hc h; tK<|ATodo.blk<|tR<|ARun.qv (q_addw J J) J<|rM J J<|rN<|ATodo.stop<|?_
        obtain rfl := Option.some.inj h
        exact hJ1 _ _ J<|ImpX.lq [] J J J
    · refine have h := iteF hc h; ATodo.exit J<|have h := outL h hA1; tSR<|rA J J<|rN<|ATodo.ret<|?_
      obtain rfl := Option.some.inj h
      exact ImpX.here ⟨_,.cons (.tmp _ _ J) .nil,J⟩

theorem slices_ContainsFunc_string_string_c [GI : GTab] {p0x0 : List Str} {fnb : Str → Option Bool} {fnb_F : FuncId} [IsFn Tryz.prog fnb_F] {fnb_C : List AV} (fnb_h : ∀ {y0 : _} {u : Bool},fnb y0 = some u → Pu Tryz.prog fnb_F (.str y0 ::  fnb_C) (.bool u)) {r : Bool} (h : slices_ContainsFunc_string_string p0x0 fnb = some r) : Pu Tryz.prog 143 [lE1 p0x0,.func (.func fnb_F) fnb_C] (.bool r) := by
  unfold slices_ContainsFunc_string_string at h
  refine ACall.bodyN Tryz.func143 J Tryz.ntmps143 Tryz.results143 J J ?_
  refine tSR<|rA J J<|rN<|tSR<|rM J J<|rM J J<|bndE h fun v1 e1 h=>r_callpB J (slices_IndexFunc_string_string_c fnb_h e1) (.cons (.co (.refl _)) (.cons (.co (.refl _)) .nil)) J J<|ARun.qv (q_geq J J) J<|rA J J<|rN<|ATodo.ret<|?_
  obtain rfl := Option.some.inj h
  exact ImpX.here ⟨_,.cons (.tmp _ _ J) .nil,J⟩

theorem Q_PropName_c {p0x0 : Str} {r : Bool} (h : Q_PropName p0x0 = some r) : Pu Tryz.prog 76 [.str p0x0] (.bool r) := by
  unfold Q_PropName at h
  refine ACall.bodyN Tryz.func76 J Tryz.ntmps76 Tryz.results76 J J ?_
  refine tSR<|rA J J<|rN<|tSR<|rM J J<|bndE h fun v1 e1 h=>t_call1 J (strings_Split_c e1) (CoL.refl _) .nil (fun _=>J) J fun b2=>rA J J<|rN<|tS<|ATodo.cut (fun σ'=>∃ (c3 : Bool),Q_PropName_j1 c3 = some r ∧ σ' = ⟨19,[(2,.bool c3)],[]⟩) ?_ ?_
  · refine tR<|rM J J<|ARun.qv (q_len_str J) J<|ARun.qv (q_leq J J) J<|rM J J<|ARun.guard_dt J J J (fun hc=>?_) (fun hc=>?_)
    · refine have h := iteT hc h; rM J J<|rY J J J<|ARun.qv (t_len_sl J) J<|rY J J J<|ARun.qv (q_leq J J) J<|rT J J J<|rM J J<|ARun.guard_dt J J J (fun hc=>?_) (fun hc=>?_)
      · exact have h := iteT hc h; rM J J<|rY J J J<|bndE h fun v4 e2 h=>r_callpB J (slices_ContainsFunc_string_string_c (fun e=>Q_PropName_1x_c e) e2) (.cons (CoB.arrT .p0) (.cons (.funcL _ _ _ .nil) .nil)) J J<|rY J J J<|ARun.qv (q_not J) J<|rT J J J<|rA J J<|rN<|ATodo.stop<|ImpX.lq [] ⟨!v4,h,J⟩ J J
      · exact have h := iteF hc h; rG J J J J<|rG J J J J<|rE J J J<|rA J J<|rN<|ATodo.stop<|ImpX.lq [] ⟨false,h,J⟩ J J
    · exact have h := iteF hc h; rG J J J J<|rG J J J J<|rE J J J<|rM J J<|rG J J J J<|rG J J J J<|rG J J J J<|rE J J J<|rA J J<|rN<|ATodo.stop<|ImpX.lq [] ⟨false,h,J⟩ J J
  · rintro σ' ⟨c3, h, rfl⟩
    unfold Q_PropName_j1 at h
    refine ATodo.ret<|?_
    obtain rfl := Option.some.inj h
    exact ImpX.here ⟨_,.cons (.tmp _ _ J) .nil,J⟩

theorem Q_ModelsFault_c {p0x0 : List Model} {r : Int} (h : Q_ModelsFault p0x0 = some r) : Pu Tryz.prog 16 [lE3 p0x0] (I r) := by
  unfold Q_ModelsFault at h
  refine ACall.bodyN Tryz.func16 J Tryz.ntmps16 Tryz.results16 J J ?_
  refine tSR<|rA J J<|rN<|tS<|tSR<|rM J J<|ARun.qv (t_len J) J<|ARun.qv (q_gtr J J) J<|rN<|ATodo.cond_d J (fun hc=>?_) (fun hc=>?_)
  · refine have h := iteT hc h; tSR<|rA J J<|rN<|ATodo.ret<|?_
    obtain rfl := Option.some.inj h
    exact ImpX.here ⟨_,.cons (.tmp _ _ J) .nil,J⟩
  · refine have h := iteF hc h; tK<|tS<|tSR<|rM J J<|ARun.qv (t_len J) J<|rM J J<|rN<|ATodo.block<|ATodo.loopI (fun x : Int=>Q_ModelsFault_b1 p0x0 x) (fun x σ'=>σ' = ⟨127,[(0,lE3 p0x0),(11,lE3 p0x0),(12,I (p0x0.length : Int)),(13,I x)],[]⟩) h ?_ ?_
    · exact ImpX.lq [] J J J
    · intro n2 z1 σ' J1 hmk h hJ1 hA1
      obtain rfl := hmk
      replace h : Q_ModelsFault_b1 p0x0 n2 = some z1 := h
      unfold Q_ModelsFault_b1 at h
      refine tSR<|ARun.qv (q_lss J J) J<|rN<|tS<|ATodo.cond_d J (fun hc=>?_) (fun hc=>?_)
      · refine have h := iteT hc h; tK<|tS<|ATodo.block<|tSR<|rM J J<|bndE h fun v3 e1 h=>ARun.qv (t_index J J J e1 J J) J<|ARun.qv (q_load_rptr_agg J J J) J<|n_alloc J J J J fun b4=>rA J J<|n_store_ptr J J J J .p0 J J<|rN<|tS<|ATodo.block<|tSR<|rF J J J<|rL J J .p0 J J<|bndE h fun v5 e2 h=>r_callp J (Q_Key_c e2) (CoL.refl _) J<|ARun.qv (q_not J) J<|rA J J<|rN<|ATodo.cond J (fun hc=>?_) (fun hc=>?_)
        · refine have h := iteT hc h; tSR<|rA J J<|rN<|ATodo.ret<|have h := outL h hA1; ?_
          obtain rfl := Option.some.inj h
          exact ImpX.here ⟨_,.cons (.tmp _ _ J) .nil,J⟩
        · refine have h := iteFb hc h; tS<|ATodo.cut (fun σ'=>∃ (c6 : Bool),Q_ModelsFault_j1 p0x0 n2 v3 c6 = some z1 ∧ σ' = ⟨127,[(0,lE3 p0x0),(3,I n2),(4,.ptr b4 0),(11,lE3 p0x0),(12,I (p0x0.length : Int)),(13,I n2),(23,.bool c6)],[(b4,.cells [.str v3.Key,.str v3.Prefix,lE2 v3.Props])]⟩) ?_ ?_
          · refine ATodo.regionM (id := 8) (A := [0,1,3,7,15,7,7,71,231,487,999,2047,4095,8191]) 14 mixed J (by kernel_rfl) (by kernel_rfl)<|AM.qv (q_move J) J<|AM.qv (q_gtr J J) J<|AM.qv (q_move J) J<|AM.guard_dt J J J (fun hc=>?_) (fun hc=>?_)
            · exact have h := iteT hc h; AM.qv (n_field_ptr J J) J<|AM.guard_yes J J J<|AM.qv (q_load_ptr J J .p0 J) J<|AM.guard_yes J J J<|AM.qv (q_move J) J<|AM.guard_yes J J J<|AM.qv (q_move J) J<|AM.guard_yes J J J<|AM.qv (q_subw J J) J<|AM.guard_yes J J J<|bndE h fun v7 e3 h=>AM.qv (t_index J J J e3 J J) J<|AM.guard_yes J J J<|AM.qv (n_field_rptr J J) J<|AM.guard_yes J J J<|AM.qv (q_load_rptr J J J) J<|AM.guard_yes J J J<|AM.qv (t_sleq J J) J<|AM.qv (q_pick_t J J) J<|AM.qv (q_assign J) J<|AM.nil<|rN<|ATodo.stop<|ImpX.lq [0] ⟨Op.bytesLess v3.Key v7.Key || v3.Key == v7.Key,h,J⟩ J J
            · exact have h := iteF hc h; AM.guard_no J J J J<|AM.guard_no J J J J<|AM.guard_no J J J J<|AM.guard_no J J J J<|AM.guard_no J J J J<|AM.guard_no J J J J<|AM.guard_no J J J J<|AM.guard_no J J J J<|AM.qv (q_pick_f J J) J<|AM.qv (q_assign J) J<|AM.nil<|rN<|ATodo.stop<|ImpX.lq [0] ⟨false,h,J⟩ J J
          · rintro σ' ⟨c6, h, rfl⟩
            unfold Q_ModelsFault_j1 at h
            refine ATodo.cond J (fun hc=>?_) (fun hc=>?_)
            · refine have h := iteT hc h; tSR<|rA J J<|rN<|ATodo.ret<|have h := outL h hA1; ?_
              obtain rfl := Option.some.inj h
              exact ImpX.here ⟨_,.cons (.tmp _ _ J) .nil,J⟩
            · refine have h := iteFb hc h; tS<|ATodo.cut (fun σ'=>∃ (c8 : Bool),Q_ModelsFault_j2 p0x0 n2 v3 c8 = some z1 ∧ σ' = ⟨127,[(0,lE3 p0x0),(3,I n2),(4,.ptr b4 0),(11,lE3 p0x0),(12,I (p0x0.length : Int)),(13,I n2),(37,.bool c8)],[(b4,.cells [.str v3.Key,.str v3.Prefix,lE2 v3.Props])]⟩) ?_ ?_
              · refine ATodo.regionM (id := 10) (A := [0,1,3,7,15,31,63,127,63,511,1023,2047,4095]) 13 mixed J (by kernel_rfl) (by kernel_rfl)<|AM.qv (n_field_ptr J J) J<|AM.qv (q_load_ptr J J .p0 J) J<|AM.qv (q_len_str J) J<|AM.callp J (Q_in_c J) (CoL.refl _) J<|AM.qv (q_not J) J<|AM.qv (q_move J) J<|AM.guard J J J (fun hc=>?_) (fun hc=>?_)
                · exact have h := iteFb hc h; AM.qv (n_field_ptr J J) J<|AM.guard_yes J J J<|AM.qv (q_load_ptr J J .p0 J) J<|AM.guard_yes J J J<|bndE h fun v9 e4 h=>AM.callp J (strings_ToUpper_c e4) (CoL.refl _) J<|AM.guard_yes J J J<|bndE h fun v10 e5 h=>AM.callp J (strings_Trim_c e5) (CoL.refl _) J<|AM.guard_yes J J J<|AM.qv (q_sne J J) J<|AM.qv (q_pick_f J J) J<|AM.qv (q_assign J) J<|AM.nil<|rN<|ATodo.stop<|ImpX.lq [0] ⟨decide (v10 ≠ ([] : Str)),h,J⟩ J J
                · exact have h := iteT hc h; AM.guard_no J J J J<|AM.guard_no J J J J<|AM.guard_no J J J J<|AM.guard_no J J J J<|AM.qv (q_pick_t J J) J<|AM.qv (q_assign J) J<|AM.nil<|rN<|ATodo.stop<|ImpX.lq [0] ⟨true,h,J⟩ J J
              · rintro σ' ⟨c8, h, rfl⟩
                unfold Q_ModelsFault_j2 at h
                refine ATodo.cond J (fun hc=>?_) (fun hc=>?_)
                · refine have h := iteT hc h; tSR<|rA J J<|rN<|ATodo.ret<|have h := outL h hA1; ?_
                  obtain rfl := Option.some.inj h
                  exact ImpX.here ⟨_,.cons (.tmp _ _ J) .nil,J⟩
                · refine have h := iteFb hc h; tSR<|rM J J<|rM J J<|bndE h fun l11 e6 h=>ARun.qv (t_slice_list J J .none (.some _ _ _ J) J J e6) J<|ARun.qv (q_makeFunc J) J<|bndE h fun v12 e7 h=>r_callpB J (slices_ContainsFunc_Model_Model_c (fun e=>Q_ModelsFault_1x_c (Option.some.inj e)) e7) (.cons (.co (.refl _)) (.cons (.funcL _ _ _ (.cons (.boxL _ _ _ .p0 (.cons (.co (.refl _)) (.cons (.co (.refl _)) (.cons (.co (.refl _)) .nil)))) .nil)) .nil)) J J<|rA J J<|rN<|ATodo.cond J (fun hc=>?_) (fun hc=>?_)
                  · refine have h := iteT hc h; tSR<|rA J J<|rN<|ATodo.ret<|have h := outL h hA1; ?_
                    obtain rfl := Option.some.inj h
                    exact ImpX.here ⟨_,.cons (.tmp _ _ J) .nil,J⟩
                  · refine have h := iteFb hc h; tSR<|rF J J J<|rL J J .p0 J J<|ARun.qv (t_len J) J<|ARun.qv (q_gtr J J) J<|rA J J<|rN<|ATodo.cond_d J (fun hc=>?_) (fun hc=>?_)
                    · refine have h := iteT hc h; tSR<|rA J J<|rN<|ATodo.ret<|have h := outL h hA1; ?_
                      obtain rfl := Option.some.inj h
                      exact ImpX.here ⟨_,.cons (.tmp _ _ J) .nil,J⟩
                    · refine have h := iteF hc h; tK<|ATodo.blk<|tSR<|rF J J J<|rL J J .p0 J J<|ARun.qv (t_len J) J<|rM J J<|rN<|ATodo.block<|ATodo.loopI (fun x : Int=>Q_ModelsFault_b2 n2 v3 x) (fun x σ'=>σ' = ⟨127,[(0,lE3 p0x0),(4,.ptr b4 0),(11,lE3 p0x0),(12,I (p0x0.length : Int)),(13,I n2),(62,lE2 v3.Props),(63,I (v3.Props.length : Int)),(64,I x)],[(b4,.cells [.str v3.Key,.str v3.Prefix,lE2 v3.Props])]⟩) h ?_ ?_
                      · exact ImpX.lq [0] J J J
                      · intro n14 z2 σ' J2 hmk h hJ2 hA2
                        obtain rfl := hmk
                        replace h : Q_ModelsFault_b2 n2 v3 n14 = some z2 := h
                        unfold Q_ModelsFault_b2 at h
                        refine tSR<|ARun.qv (q_lss J J) J<|rN<|tS<|ATodo.cond_d J (fun hc=>?_) (fun hc=>?_)
                        · refine have h := iteT hc h; tK<|tS<|ATodo.block<|tSR<|rM J J<|bndE h fun v15 e8 h=>ARun.qv (t_index J J J e8 J J) J<|ARun.qv (q_load_rptr_agg J J J) J<|n_alloc J J J J fun b16=>rA J J<|n_store_ptr J J J J .p0 J J<|rN<|tSR<|rF J J J<|rL J J .p0 J J<|ARun.qv (q_eql J J) J<|rA J J<|rN<|ATodo.block<|tSR<|rF J J J<|rL J J .p0 J J<|bndE h fun v17 e9 h=>r_callp J (Q_PropName_c e9) (CoL.refl _) J<|ARun.qv (q_not J) J<|rA J J<|rN<|ATodo.cond J (fun hc=>?_) (fun hc=>?_)
                          · refine have h := iteT hc h; tSR<|rA J J<|rN<|ATodo.ret<|have h := outL h hA2; have h := outL h hA1; ?_
                            obtain rfl := Option.some.inj h
                            exact ImpX.here ⟨_,.cons (.tmp _ _ J) .nil,J⟩
                          · refine have h := iteFb hc h; tS<|ATodo.cut (fun σ'=>∃ (c18 : Bool),Q_ModelsFault_j3 n14 v15 c18 = some z2 ∧ σ' = ⟨127,[(0,lE3 p0x0),(4,.ptr b4 0),(6,.ptr b16 0),(7,.bool (decide (v15.Kind = (2 : Int)))),(11,lE3 p0x0),(12,I (p0x0.length : Int)),(13,I n2),(62,lE2 v3.Props),(63,I (v3.Props.length : Int)),(64,I n14),(77,.bool c18)],[(b4,.cells [.str v3.Key,.str v3.Prefix,lE2 v3.Props]),(b16,.cells (cE0 v15))]⟩) ?_ ?_
                            · refine ATodo.regionM (id := 22) (A := [0,1,3,7,15,7,39,7,135,487,999,2023,4095,8191,16383]) 15 mixed J (by kernel_rfl) (by kernel_rfl)<|AM.qv (q_move J) J<|AM.qv (q_gtr J J) J<|AM.qv (q_move J) J<|AM.guard_dt J J J (fun hc=>?_) (fun hc=>?_)
                              · exact have h := iteT hc h; AM.qv (n_field_ptr J J) J<|AM.guard_yes J J J<|AM.qv (q_load_ptr J J .p0 J) J<|AM.guard_yes J J J<|AM.qv (n_field_ptr J J) J<|AM.guard_yes J J J<|AM.qv (q_load_ptr J J .p1 J) J<|AM.guard_yes J J J<|AM.qv (q_move J) J<|AM.guard_yes J J J<|AM.qv (q_subw J J) J<|AM.guard_yes J J J<|bndE h fun v19 e10 h=>AM.qv (t_index J J J e10 J J) J<|AM.guard_yes J J J<|AM.qv (n_field_rptr J J) J<|AM.guard_yes J J J<|AM.qv (q_load_rptr J J J) J<|AM.guard_yes J J J<|AM.qv (t_sleq J J) J<|AM.qv (q_pick_t J J) J<|AM.qv (q_assign J) J<|AM.nil<|rN<|ATodo.stop<|ImpX.lq [1,0] ⟨Op.bytesLess v15.Name v19.Name || v15.Name == v19.Name,h,J⟩ J J
                              · exact have h := iteF hc h; AM.guard_no J J J J<|AM.guard_no J J J J<|AM.guard_no J J J J<|AM.guard_no J J J J<|AM.guard_no J J J J<|AM.guard_no J J J J<|AM.guard_no J J J J<|AM.guard_no J J J J<|AM.guard_no J J J J<|AM.qv (q_pick_f J J) J<|AM.qv (q_assign J) J<|AM.nil<|rN<|ATodo.stop<|ImpX.lq [1,0] ⟨false,h,J⟩ J J
                            · rintro σ' ⟨c18, h, rfl⟩
                              unfold Q_ModelsFault_j3 at h
                              refine ATodo.cond J (fun hc=>?_) (fun hc=>?_)
                              · refine have h := iteT hc h; tSR<|rA J J<|rN<|ATodo.ret<|have h := outL h hA2; have h := outL h hA1; ?_
                                obtain rfl := Option.some.inj h
                                exact ImpX.here ⟨_,.cons (.tmp _ _ J) .nil,J⟩
                              · refine have h := iteFb hc h; tSR<|rF J J J<|rL J J .p1 J J<|r_callp J (Q_in_c J) (CoL.refl _) J<|ARun.qv (q_not J) J<|rA J J<|rN<|ATodo.cond J (fun hc=>?_) (fun hc=>?_)
                                · refine have h := iteT hc h; tSR<|rA J J<|rN<|ATodo.ret<|have h := outL h hA2; have h := outL h hA1; ?_
                                  obtain rfl := Option.some.inj h
                                  exact ImpX.here ⟨_,.cons (.tmp _ _ J) .nil,J⟩
                                · refine have h := iteFb hc h; tS<|ATodo.cut (fun σ'=>∃ (c20 : Bool),Q_ModelsFault_j4 n14 v15 c20 = some z2 ∧ σ' = ⟨127,[(0,lE3 p0x0),(4,.ptr b4 0),(6,.ptr b16 0),(7,.bool (decide (v15.Kind = (2 : Int)))),(11,lE3 p0x0),(12,I (p0x0.length : Int)),(13,I n2),(62,lE2 v3.Props),(63,I (v3.Props.length : Int)),(64,I n14),(97,.bool c20)],[(b4,.cells [.str v3.Key,.str v3.Prefix,lE2 v3.Props]),(b16,.cells (cE0 v15))]⟩) ?_ ?_
                                  · refine tR<|rM J J<|rM J J<|ARun.guard_dt J J J (fun hc=>?_) (fun hc=>?_)
                                    · rw [andTd hc] at h
                                      refine rF J J J<|rY J J J<|rL J J .p1 J J<|rY J J J<|rF J J J<|rY J J J<|rL J J .p1 J J<|rY J J J<|r_callp J (Q_in_c J) (CoL.refl _) J<|rY J J J<|ARun.qv (q_not J) J<|rY J J J<|rM J J<|ARun.guard J J J (fun hc=>?_) (fun hc=>?_)
                                      · rw [orFb hc] at h
                                        exact rF J J J<|rY J J J<|rL J J .p1 J J<|rY J J J<|ARun.qv (q_gtr J J) J<|rY J J J<|rE J J J<|rT J J J<|rA J J<|rN<|ATodo.stop<|ImpX.lq [0,0] ⟨decide ((1000000000 : Int) < v15.High),h,J⟩ J J
                                      · rw [orTb hc] at h
                                        exact rG J J J J<|rG J J J J<|rY J J J<|rT J J J<|rT J J J<|rA J J<|rN<|ATodo.stop<|ImpX.lq [0,0] ⟨true,h,J⟩ J J
                                    · rw [andFd hc] at h
                                      exact rG J J J J<|rG J J J J<|rG J J J J<|rG J J J J<|rG J J J J<|rG J J J J<|ARun.guard_und J J J<|ARun.guard_und J J J<|ARun.guard_und J J J<|rG J J J J<|rE J J J<|rA J J<|rN<|ATodo.stop<|ImpX.lq [0,0] ⟨false,h,J⟩ J J
                                  · rintro σ' ⟨c20, h, rfl⟩
                                    unfold Q_ModelsFault_j4 at h
                                    refine ATodo.cond J (fun hc=>?_) (fun hc=>?_)
                                    · refine have h := iteT hc h; tSR<|rA J J<|rN<|ATodo.ret<|have h := outL h hA2; have h := outL h hA1; ?_
                                      obtain rfl := Option.some.inj h
                                      exact ImpX.here ⟨_,.cons (.tmp _ _ J) .nil,J⟩
                                    · refine have h := iteFb hc h; tS<|ATodo.cut (fun σ'=>∃ (c21 : Bool),Q_ModelsFault_j5 n14 c21 = some z2 ∧ σ' = ⟨127,[(0,lE3 p0x0),(4,.ptr b4 0),(11,lE3 p0x0),(12,I (p0x0.length : Int)),(13,I n2),(62,lE2 v3.Props),(63,I (v3.Props.length : Int)),(64,I n14),(112,.bool c21)],[(b4,.cells [.str v3.Key,.str v3.Prefix,lE2 v3.Props])]⟩) ?_ ?_
                                      · refine tR<|rM J J<|ARun.qv (q_not_d J) J<|rM J J<|ARun.guard_dt J J J (fun hc=>?_) (fun hc=>?_)
                                        · rw [andTd hc] at h
                                          refine rF J J J<|rY J J J<|rL J J .p1 J J<|rY J J J<|ARun.qv (q_neq J J) J<|rY J J J<|rM J J<|ARun.guard_df J J J (fun hc=>?_) (fun hc=>?_)
                                          · rw [orFd hc] at h
                                            exact rF J J J<|rY J J J<|rL J J .p1 J J<|rY J J J<|ARun.qv (q_neq J J) J<|rY J J J<|rE J J J<|rT J J J<|rA J J<|rN<|ATodo.stop<|ImpX.lq [0] ⟨decide (v15.High ≠ (0 : Int)),h,J⟩ J J
                                          · rw [orTd hc] at h
                                            exact rG J J J J<|rG J J J J<|rY J J J<|rT J J J<|rT J J J<|rA J J<|rN<|ATodo.stop<|ImpX.lq [0] ⟨true,h,J⟩ J J
                                        · rw [andFd hc] at h
                                          exact rG J J J J<|rG J J J J<|rG J J J J<|ARun.guard_und J J J<|ARun.guard_und J J J<|ARun.guard_und J J J<|rG J J J J<|rE J J J<|rA J J<|rN<|ATodo.stop<|ImpX.lq [0] ⟨false,h,J⟩ J J
                                      · rintro σ' ⟨c21, h, rfl⟩
                                        unfold Q_ModelsFault_j5 at h
                                        refine ATodo.cond J (fun hc=>?_) (fun hc=>?_)
                                        · refine have h := iteT hc h; tSR<|rA J J<|rN<|ATodo.ret<|have h := outL h hA2; have h := outL h hA1; ?_
                                          obtain rfl := Option.some.inj h
                                          exact ImpX.here ⟨_,.cons (.tmp _ _ J) .nil,J⟩
                                        · refine have h := iteFb hc h; tK<|ATodo.blk<|ATodo.blk<|tR<|ARun.qv (q_addw J J) J<|rM J J<|rN<|ATodo.stop<|?_
                                          obtain rfl := Option.some.inj h
                                          exact hJ2 _ _ J<|ImpX.lq [0] J J J
                        · refine have h := iteF hc h; ATodo.exit J<|have h := outL h hA2; ATodo.blk<|tR<|ARun.qv (q_addw J J) J<|rM J J<|rN<|ATodo.stop<|?_
                          obtain rfl := Option.some.inj h
                          exact hJ1 _ _ J<|ImpX.lq [] J J J
      · refine have h := iteF hc h; ATodo.exit J<|have h := outL h hA1; tSR<|rA J J<|rN<|ATodo.ret<|?_
        obtain rfl := Option.some.inj h
        exact ImpX.here ⟨_,.cons (.tmp _ _ J) .nil,J⟩

theorem Q_MomentFault_c [GI : GTab] {p0x0 : Int} {r : Int} (h : Q_MomentFault p0x0 = r) : Pu Tryz.prog 20 [I p0x0] (I r) := by
  unfold Q_MomentFault at h
  refine ACall.bodyN Tryz.func20 J Tryz.ntmps20 Tryz.results20 J J ?_
  refine tSR<|rA J J<|rN<|tS<|tSR<|rM J J<|r_callp J (Q_in_c J) (CoL.refl _) J<|ARun.qv (q_not J) J<|rN<|ATodo.cond J (fun hc=>?_) (fun hc=>?_)
  · refine have h := iteT hc h; tSR<|rA J J<|rN<|ATodo.ret<|?_
    obtain rfl := h
    exact ImpX.here ⟨_,.cons (.tmp _ _ J) .nil,J⟩
  · refine have h := iteFb hc h; tK<|tSR<|rA J J<|rN<|ATodo.ret<|?_
    obtain rfl := h
    exact ImpX.here ⟨_,.cons (.tmp _ _ J) .nil,J⟩

theorem Q_modelAt_1x_c [GI : GTab] {p0x0 : Model} {p1x0 : Str} {r : Bool} (h : Q_modelAt_1x p0x0 p1x0 = r) : Pu Tryz.prog 265 [Model.av p0x0,.rptr [.str p1x0]] (.bool r) := by
  unfold Q_modelAt_1x at h
  refine ACall.bodyN Tryz.func265 J Tryz.ntmps265 Tryz.results265 J J ?_
  refine tSR<|n_box J J J J fun b1=>rA J J<|rN<|tSR<|rF J J J<|rL J J .p0 J J<|ARun.qv (q_load_rptr J J J) J<|ARun.qv (q_seq J J) J<|rA J J<|rN<|ATodo.ret<|?_
  obtain rfl := h
  exact ImpX.here ⟨_,.cons (.tmp _ _ J) .nil,J⟩

theorem Q_modelAt_c [GI : GTab] {p0x0 : List Model} {p1x0 : Str} {r : Int} (h : Q_modelAt p0x0 p1x0 = some r) : Pu Tryz.prog 196 [lE3 p0x0,.str p1x0] (I r) := by
  unfold Q_modelAt at h
  refine ACall.bodyN Tryz.func196 J Tryz.ntmps196 Tryz.results196 J J ?_
  refine tSR<|n_box J J J J fun b1=>rA J J<|rN<|tSR<|rM J J<|ARun.qv (q_makeFunc J) J<|bndE h fun v2 e1 h=>r_callpB J (slices_IndexFunc_Model_Model_c (fun e=>Q_modelAt_1x_c (Option.some.inj e)) e1) (.cons (.co (.refl _)) (.cons (.funcL _ _ _ (.cons (.boxL _ _ _ .p0 (.cons (.co (.refl _)) .nil)) .nil)) .nil)) J J<|rA J J<|rN<|ATodo.ret<|?_
  obtain rfl := Option.some.inj h
  exact ImpX.here ⟨_,.cons (.tmp _ _ J) .nil,J⟩

theorem Q_publicKey_c {p0x0 : Str} {r : Bool} (h : Q_publicKey p0x0 = some r) : Pu Tryz.prog 78 [.str p0x0] (.bool r) := by
  unfold Q_publicKey at h
  refine ACall.bodyN Tryz.func78 J Tryz.ntmps78 Tryz.results78 J J ?_
  refine tSR<|rA J J<|rN<|tS<|ATodo.cut (fun σ'=>∃ (c1 : Bool),Q_publicKey_j1 c1 = some r ∧ σ' = ⟨11,[(2,.bool c1)],[]⟩) ?_ ?_
  · refine tR<|rM J J<|ARun.qv (q_len_str J) J<|r_callp J (Q_in_c J) (CoL.refl _) J<|rM J J<|ARun.guard J J J (fun hc=>?_) (fun hc=>?_)
    · exact have h := iteT hc h; rM J J<|rY J J J<|bndE h fun v2 e1 h=>r_callp J (strings_Trim_c e1) (CoL.refl _) J<|rY J J J<|ARun.qv (q_seq J J) J<|rT J J J<|rA J J<|rN<|ATodo.stop<|ImpX.lq [] ⟨decide (v2 = ([] : Str)),h,J⟩ J J
    · exact have h := iteFb hc h; rG J J J J<|rG J J J J<|rE J J J<|rA J J<|rN<|ATodo.stop<|ImpX.lq [] ⟨false,h,J⟩ J J
  · rintro σ' ⟨c1, h, rfl⟩
    unfold Q_publicKey_j1 at h
    refine ATodo.ret<|?_
    obtain rfl := Option.some.inj h
    exact ImpX.here ⟨_,.cons (.tmp _ _ J) .nil,J⟩

theorem Q_KeyFault_c {p0x0 : Str} {r : Int} (h : Q_KeyFault p0x0 = some r) : Pu Tryz.prog 18 [.str p0x0] (I r) := by
  unfold Q_KeyFault at h
  refine ACall.bodyN Tryz.func18 J Tryz.ntmps18 Tryz.results18 J J ?_
  refine tSR<|rA J J<|rN<|tS<|tSR<|rM J J<|bndE h fun v1 e1 h=>r_callp J (Q_Key_c e1) (CoL.refl _) J<|ARun.qv (q_not J) J<|rN<|ATodo.cond J (fun hc=>?_) (fun hc=>?_)
  · refine have h := iteT hc h; tSR<|rA J J<|rN<|ATodo.ret<|?_
    obtain rfl := Option.some.inj h
    exact ImpX.here ⟨_,.cons (.tmp _ _ J) .nil,J⟩
  · refine have h := iteFb hc h; tK<|tSR<|rA J J<|rN<|ATodo.ret<|?_
    obtain rfl := Option.some.inj h
    exact ImpX.here ⟨_,.cons (.tmp _ _ J) .nil,J⟩

theorem Q_versionRight_c [GI : GTab] {p0x0 : Version} {r : Bool} (h : Q_versionRight p0x0 = r) : Pu Tryz.prog 197 [Version.av p0x0] (.bool r) := by
  unfold Q_versionRight at h
  refine ACall.bodyN Tryz.func197 J Tryz.ntmps197 Tryz.results197 J J ?_
  refine tSR<|n_box J J J J fun b1=>rA J J<|rN<|tS<|ATodo.cut (fun σ'=>∃ (c2 : Bool),Q_versionRight_j1 c2 = r ∧ σ' = ⟨16,[(2,.bool c2)],[]⟩) ?_ ?_
  · refine tR<|rF J J J<|rL J J .p0 J J<|r_callp J (Q_in_c J) (CoL.refl _) J<|rM J J<|ARun.guard J J J (fun hc=>?_) (fun hc=>?_)
    · rw [andTb hc] at h
      refine rF J J J<|rY J J J<|rL J J .p0 J J<|rY J J J<|r_callp J (Q_in_c J) (CoL.refl _) J<|rT J J J<|rM J J<|ARun.guard J J J (fun hc=>?_) (fun hc=>?_)
      · rw [andTb hc] at h
        exact rF J J J<|rY J J J<|rL J J .p0 J J<|rY J J J<|r_callp J (Q_in_c J) (CoL.refl _) J<|rT J J J<|rA J J<|rN<|ATodo.stop<|ImpX.lq [] ⟨(Q_in p0x0.Patch (0 : Int) (9999 : Int)),h,J⟩ J J
      · rw [andFb hc] at h
        exact rG J J J J<|rG J J J J<|rE J J J<|rA J J<|rN<|ATodo.stop<|ImpX.lq [] ⟨false,h,J⟩ J J
    · rw [andFb hc] at h
      exact rG J J J J<|rG J J J J<|rE J J J<|rM J J<|rG J J J J<|rG J J J J<|rG J J J J<|rE J J J<|rA J J<|rN<|ATodo.stop<|ImpX.lq [] ⟨false,h,J⟩ J J
  · rintro σ' ⟨c2, h, rfl⟩
    unfold Q_versionRight_j1 at h
    refine ATodo.ret<|?_
    obtain rfl := h
    exact ImpX.here ⟨_,.cons (.tmp _ _ J) .nil,J⟩

theorem strings_Contains_c {p0x0 : Str} {p1x0 : Str} {r : Bool} (h : strings_Contains p0x0 p1x0 = some r) : Pu Tryz.prog 147 [.str p0x0,.str p1x0] (.bool r) := by
  unfold strings_Contains at h
  refine ACall.bodyN Tryz.func147 J Tryz.ntmps147 Tryz.results147 J J ?_
  refine tSR<|rA J J<|rN<|tSR<|rM J J<|rM J J<|bndE h fun v1 e1 h=>r_callp J (strings_Index_c e1) (CoL.refl _) J<|ARun.qv (q_geq J J) J<|rA J J<|rN<|ATodo.ret<|?_
  obtain rfl := Option.some.inj h
  exact ImpX.here ⟨_,.cons (.tmp _ _ J) .nil,J⟩

theorem Q_plain_c {p0x0 : Str} {r : Bool} (h : Q_plain p0x0 = some r) : Pu Tryz.prog 198 [.str p0x0] (.bool r) := by
  unfold Q_plain at h
  refine ACall.bodyN Tryz.func198 J Tryz.ntmps198 Tryz.results198 J J ?_
  refine tSR<|rA J J<|rN<|tS<|tSR<|rM J J<|t_conv_sb J J<|ARun.qv (t_len J) J<|rM J J<|rN<|ATodo.block<|ATodo.loopI (fun x : Int=>Q_plain_b1 p0x0 x) (fun x σ'=>σ' = ⟨32,[(0,.str p0x0),(6,lE7 (bytesI p0x0)),(7,I ((bytesI p0x0).length : Int)),(8,I x)],[]⟩) h ?_ ?_
  · exact ImpX.lq [] J J J
  · intro n2 z1 σ' J1 hmk h hJ1 hA1
    obtain rfl := hmk
    replace h : Q_plain_b1 p0x0 n2 = some z1 := h
    unfold Q_plain_b1 at h
    refine tSR<|ARun.qv (q_lss J J) J<|rN<|tS<|ATodo.cond_d J (fun hc=>?_) (fun hc=>?_)
    · refine have h := iteT hc h; tK<|tS<|ATodo.block<|tSR<|bndE h fun v3 e1 h=>ARun.qv (t_index J J J e1 J J) J<|ARun.qv (q_load_rptr J J J) J<|rA J J<|rN<|tS<|ATodo.cut (fun σ'=>∃ (c4 : Bool),Q_plain_j1 n2 c4 = some z1 ∧ σ' = ⟨32,[(0,.str p0x0),(6,lE7 (bytesI p0x0)),(7,I ((bytesI p0x0).length : Int)),(8,I n2),(17,.bool c4)],[]⟩) ?_ ?_
      · refine tR<|rM J J<|ARun.qv (q_lss J J) J<|rM J J<|ARun.guard_df J J J (fun hc=>?_) (fun hc=>?_)
        · rw [orFd hc] at h
          exact rM J J<|rY J J J<|ARun.qv (q_eql J J) J<|rE J J J<|rN<|ATodo.stop<|ImpX.lq [] ⟨decide (v3 = (127 : Int)),h,J⟩ J J
        · rw [orTd hc] at h
          exact rG J J J J<|rT J J J<|rN<|ATodo.stop<|ImpX.lq [] ⟨true,h,J⟩ J J
      · rintro σ' ⟨c4, h, rfl⟩
        unfold Q_plain_j1 at h
        refine ATodo.cond J (fun hc=>?_) (fun hc=>?_)
        · refine have h := iteT hc h; tSR<|rA J J<|rN<|ATodo.ret<|have h := outL h hA1; ?_
          obtain rfl := Option.some.inj h
          exact ImpX.here ⟨_,.cons (.tmp _ _ J) .nil,J⟩
        · refine have h := iteFb hc h; tK<|ATodo.blk<|tR<|ARun.qv (q_addw J J) J<|rM J J<|rN<|ATodo.stop<|?_
          obtain rfl := Option.some.inj h
          exact hJ1 _ _ J<|ImpX.lq [] J J J
    · refine have h := iteF hc h; ATodo.exit J<|have h := outL h hA1; ?_
      unfold Q_plain_k3 at h
      refine tS<|ATodo.cut (fun σ'=>∃ (c5 : Bool),Q_plain_j2 c5 = some r ∧ σ' = ⟨32,[(2,.bool c5)],[]⟩) ?_ ?_
      · refine tR<|rM J J<|bndE h fun v6 e2 h=>r_callp J (utf8_ValidString_c e2) (CoL.refl _) J<|rM J J<|ARun.guard J J J (fun hc=>?_) (fun hc=>?_)
        · refine have h := iteT hc h; rM J J<|rY J J J<|rM J J<|rY J J J<|bndE h fun v7 e3 h=>r_callp J (strings_Trim_c e3) (CoL.refl _) J<|rY J J J<|ARun.qv (q_seq J J) J<|rT J J J<|rM J J<|ARun.guard_dt J J J (fun hc=>?_) (fun hc=>?_)
          · exact have h := iteT hc h; rM J J<|rY J J J<|bndE h fun v8 e4 h=>r_callp J (strings_Contains_c e4) (CoL.refl _) J<|rY J J J<|ARun.qv (q_not J) J<|rT J J J<|rA J J<|rN<|ATodo.stop<|ImpX.lq [] ⟨!v8,h,J⟩ J J
          · exact have h := iteF hc h; rG J J J J<|rG J J J J<|rE J J J<|rA J J<|rN<|ATodo.stop<|ImpX.lq [] ⟨false,h,J⟩ J J
        · exact have h := iteFb hc h; rG J J J J<|rG J J J J<|rG J J J J<|rE J J J<|rM J J<|rG J J J J<|rG J J J J<|rG J J J J<|rE J J J<|rA J J<|rN<|ATodo.stop<|ImpX.lq [] ⟨false,h,J⟩ J J
      · rintro σ' ⟨c5, h, rfl⟩
        unfold Q_plain_j2 at h
        refine ATodo.ret<|?_
        obtain rfl := Option.some.inj h
        exact ImpX.here ⟨_,.cons (.tmp _ _ J) .nil,J⟩

theorem Q_eventOwn_c {p0x0 : List Model} {p1x0 : EventS} {r : Int} (h : Q_eventOwn p0x0 p1x0 = some r) : Pu Tryz.prog 145 [lE3 p0x0,EventS.av p1x0] (I r) := by
  unfold Q_eventOwn at h
  refine ACall.bodyN Tryz.func145 J Tryz.ntmps145 Tryz.results145 J J ?_
  refine tSR<|n_box J J J J fun b1=>rA J J<|rN<|tS<|tSR<|rF J J J<|rL J J .p0 J J<|rN<|ATodo.block<|tSR<|ARun.qv (q_eql J J) J<|rA J J<|rN<|ATodo.cut (fun σ'=>Q_eventOwn_j1 = some r ∧ σ' = ⟨64,[],[]⟩) ?_ ?_
  · refine ATodo.cond_d J (fun hc=>?_) (fun hc=>?_)
    · refine have h := iteT hc h; ATodo.block<|tSR<|rM J J<|rF J J J<|rL J J .p0 J J<|bndE h fun v2 e1 h=>r_callp J (Q_modelAt_c e1) (CoL.refl _) J<|ARun.qv (q_lss J J) J<|rA J J<|rN<|ATodo.cond_d J (fun hc=>?_) (fun hc=>?_)
      · refine have h := iteT hc h; tSR<|rA J J<|rN<|ATodo.ret<|?_
        obtain rfl := Option.some.inj h
        exact ImpX.here ⟨_,.cons (.tmp _ _ J) .nil,J⟩
      · refine have h := iteF hc h; tSR<|rF J J J<|rL J J .p0 J J<|r_callp J (Q_in_c J) (CoL.refl _) J<|ARun.qv (q_not J) J<|rA J J<|rN<|ATodo.cond J (fun hc=>?_) (fun hc=>?_)
        · refine have h := iteT hc h; tSR<|rA J J<|rN<|ATodo.ret<|?_
          obtain rfl := Option.some.inj h
          exact ImpX.here ⟨_,.cons (.tmp _ _ J) .nil,J⟩
        · refine have h := iteFb hc h; tSR<|rF J J J<|rL J J .p0 J J<|bndE h fun v3 e2 h=>r_callp J (Q_publicKey_c e2) (CoL.refl _) J<|ARun.qv (q_not J) J<|rA J J<|rN<|ATodo.cond J (fun hc=>?_) (fun hc=>?_)
          · refine have h := iteT hc h; tSR<|rA J J<|rN<|ATodo.ret<|?_
            obtain rfl := Option.some.inj h
            exact ImpX.here ⟨_,.cons (.tmp _ _ J) .nil,J⟩
          · exact have h := iteFb hc h; tK<|ATodo.blk<|ATodo.stop<|ImpX.lq [] ⟨h,J⟩ J J
    · refine have h := iteF hc h; tSR<|ARun.qv (q_eql J J) J<|rA J J<|rN<|ATodo.cond_d J (fun hc=>?_) (fun hc=>?_)
      · refine have h := iteT hc h; tSR<|rF J J J<|rL J J .p0 J J<|bndE h fun v4 e3 h=>r_callp J (Q_KeyFault_c e3) (CoL.refl _) J<|rA J J<|rN<|ATodo.ret<|?_
        obtain rfl := Option.some.inj h
        exact ImpX.here ⟨_,.cons (.tmp _ _ J) .nil,J⟩
      · refine have h := iteF hc h; tSR<|ARun.qv (q_eql J J) J<|rA J J<|rN<|ATodo.cut (fun σ'=>Q_eventOwn_j2 = some r ∧ σ' = ⟨64,[],[]⟩) ?_ ?_
        · refine ATodo.cond_d J (fun hc=>?_) (fun hc=>?_)
          · refine have h := iteT hc h; tS<|tSR<|rF J J J<|rL J J .p0 J J<|bndE h fun v5 e4 h=>r_callp J (Q_publicKey_c e4) (CoL.refl _) J<|ARun.qv (q_not J) J<|rN<|ATodo.cond J (fun hc=>?_) (fun hc=>?_)
            · refine have h := iteT hc h; tSR<|rA J J<|rN<|ATodo.ret<|?_
              obtain rfl := Option.some.inj h
              exact ImpX.here ⟨_,.cons (.tmp _ _ J) .nil,J⟩
            · refine have h := iteFb hc h; tK<|tSR<|rF J J J<|rL J J .p0 J J<|rF J J J<|rL J J .p0 J J<|r_callp J (Q_in_c J) (CoL.refl _) J<|ARun.qv (q_not J) J<|rN<|ATodo.cond J (fun hc=>?_) (fun hc=>?_)
              · refine have h := iteT hc h; tSR<|rA J J<|rN<|ATodo.ret<|?_
                obtain rfl := Option.some.inj h
                exact ImpX.here ⟨_,.cons (.tmp _ _ J) .nil,J⟩
              · exact have h := iteFb hc h; tK<|ATodo.stop<|ImpX.lq [] ⟨h,J⟩ J J
          · refine have h := iteF hc h; tSR<|ARun.qv (q_eql J J) J<|rA J J<|rN<|ATodo.cut (fun σ'=>Q_eventOwn_j3 = some r ∧ σ' = ⟨64,[],[]⟩) ?_ ?_
            · refine ATodo.cond_d J (fun hc=>?_) (fun hc=>?_)
              · refine have h := iteT hc h; tSR<|rF J J J<|ARun.qv (n_load_ptr_part J J .p0 J J) J<|r_callp J (Q_versionRight_c J) (CoL.refl _) J<|ARun.qv (q_not J) J<|rN<|ATodo.cond J (fun hc=>?_) (fun hc=>?_)
                · refine have h := iteT hc h; tSR<|rA J J<|rN<|ATodo.ret<|?_
                  obtain rfl := Option.some.inj h
                  exact ImpX.here ⟨_,.cons (.tmp _ _ J) .nil,J⟩
                · exact have h := iteFb hc h; tK<|ATodo.stop<|ImpX.lq [] ⟨h,J⟩ J J
              · refine have h := iteF hc h; tSR<|ARun.qv (q_eql J J) J<|rA J J<|rN<|ATodo.cut (fun σ'=>Q_eventOwn_j4 = some r ∧ σ' = ⟨64,[],[]⟩) ?_ ?_
                · refine ATodo.cond_d J (fun hc=>?_) (fun hc=>?_)
                  · refine have h := iteT hc h; tS<|tSR<|rF J J J<|rL J J .p0 J J<|bndE h fun v6 e5 h=>r_callp J (Q_Key_c e5) (CoL.refl _) J<|ARun.qv (q_not J) J<|rN<|ATodo.cond J (fun hc=>?_) (fun hc=>?_)
                    · refine have h := iteT hc h; tSR<|rA J J<|rN<|ATodo.ret<|?_
                      obtain rfl := Option.some.inj h
                      exact ImpX.here ⟨_,.cons (.tmp _ _ J) .nil,J⟩
                    · refine have h := iteFb hc h; tK<|tS<|ATodo.cut (fun σ'=>∃ (c7 : Bool),Q_eventOwn_j5 c7 = some r ∧ σ' = ⟨64,[(63,.bool c7)],[]⟩) ?_ ?_
                      · refine tR<|rF J J J<|rL J J .p0 J J<|bndE h fun v8 e6 h=>r_callp J (Q_plain_c e6) (CoL.refl _) J<|ARun.qv (q_not J) J<|rM J J<|ARun.guard J J J (fun hc=>?_) (fun hc=>?_)
                        · rw [orFb hc] at h
                          exact rF J J J<|rY J J J<|rL J J .p0 J J<|rY J J J<|ARun.qv (q_len_str J) J<|rY J J J<|ARun.qv (q_gtr J J) J<|rE J J J<|rN<|ATodo.stop<|ImpX.lq [] ⟨decide ((100 : Int) < (p1x0.Value.length : Int)),h,J⟩ J J
                        · rw [orTb hc] at h
                          exact rG J J J J<|rG J J J J<|rG J J J J<|rT J J J<|rN<|ATodo.stop<|ImpX.lq [] ⟨true,h,J⟩ J J
                      · rintro σ' ⟨c7, h, rfl⟩
                        unfold Q_eventOwn_j5 at h
                        refine ATodo.cond J (fun hc=>?_) (fun hc=>?_)
                        · refine have h := iteT hc h; tSR<|rA J J<|rN<|ATodo.ret<|?_
                          obtain rfl := Option.some.inj h
                          exact ImpX.here ⟨_,.cons (.tmp _ _ J) .nil,J⟩
                        · exact have h := iteFb hc h; tK<|ATodo.stop<|ImpX.lq [] ⟨h,J⟩ J J
                  · exact have h := iteF hc h; tK<|ATodo.stop<|ImpX.lq [] ⟨h,J⟩ J J
                · rintro σ' ⟨h, rfl⟩
                  unfold Q_eventOwn_j4 at h
                  exact ATodo.stop<|ImpX.lq [] ⟨h,J⟩ J J
            · rintro σ' ⟨h, rfl⟩
              unfold Q_eventOwn_j3 at h
              exact ATodo.stop<|ImpX.lq [] ⟨h,J⟩ J J
        · rintro σ' ⟨h, rfl⟩
          unfold Q_eventOwn_j2 at h
          exact ATodo.stop<|ImpX.lq [] ⟨h,J⟩ J J
  · rintro σ' ⟨h, rfl⟩
    unfold Q_eventOwn_j1 at h
    refine ATodo.blk<|tSR<|rA J J<|rN<|ATodo.ret<|?_
    obtain rfl := Option.some.inj h
    exact ImpX.here ⟨_,.cons (.tmp _ _ J) .nil,J⟩

end Go.Proofs.YtnopmjdjgangdaaGreatDoor

