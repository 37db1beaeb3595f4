/- The code computes the plain functions: proofs written by shal.py. -/
import Derived.Test.YtpibecbdhjbanaaGreatDoorWbeP
import Derived.Test.YtpibecbdhjbanaaGreatDoorLib
set_option maxHeartbeats 4000000
set_option maxRecDepth 100000
set_option linter.unusedVariables false
set_option linter.unusedSimpArgs false
namespace Go.Proofs.YtpibecbdhjbanaaGreatDoor
open Go Go.Eng Go.Proofs Go.Beacon
attribute [local irreducible] ARun ATodo AQ QV ACall ImpX AWp AM
instance eqg27 : EqGd Tryz.prog 27 := ⟨by kernel_rfl⟩
instance eqt27 : EqTy Tryz.prog 27 2 Version.av := ⟨fun x y w S v u hv hu=>by
  obtain ⟨vs, rfl, hl, ha⟩ := At.agg_inv hv
  obtain ⟨us, rfl, hl', ha'⟩ := At.agg_inv hu
  obtain ⟨v0, p0, q0⟩ := AtA.get hl ha (off := 0) rfl
  obtain ⟨u0, p0', q0'⟩ := AtA.get hl' ha' (off := 0) rfl
  obtain ⟨v1, p1, q1⟩ := AtA.get hl ha (off := 1) rfl
  obtain ⟨u1, p1', q1'⟩ := AtA.get hl' ha' (off := 1) rfl
  obtain ⟨v2, p2, q2⟩ := AtA.get hl ha (off := 2) rfl
  obtain ⟨u2, p2', q2'⟩ := AtA.get hl' ha' (off := 2) rfl
  refine EqR.cast (EqR.struct Tryz.underlying27 (by kernel_rfl) (.cons (by decide) (part_one J p0) (part_one J p0') (EqR.up (EqTy.h (g := I) x.Major y.Major w S _ _ q0 q0') 0)  (.cons (by decide) (part_one J p1) (part_one J p1') (EqR.up (EqTy.h (g := I) x.Minor y.Minor w S _ _ q1 q1') 0)  (.cons (by decide) (part_one J p2) (part_one J p2') (EqR.up (EqTy.h (g := I) x.Patch y.Patch w S _ _ q2 q2') 0) .nil)))) ?_
  obtain ⟨_, _, _⟩ := x
  obtain ⟨_, _, _⟩ := y
  rw [Bool.eq_iff_iff]; simp [and_assoc]⟩
abbrev lE0 (xs : List Int) : AV := .list 1 (xs.map I)
abbrev lE1 (xs : List Str) : AV := .list 1 (xs.map AV.str)
abbrev aE2 (xs : List Wave) : Ob := .arr 4 (xs.map Wave.av)
abbrev cE0 (x : Campaign) (b5 : Bk) : List AV := [.str x.Key,I x.Target.Major,I x.Target.Minor,I x.Target.Patch,I x.At,.sl 4 b5 0 x.Waves.length,I x.Hours.From,I x.Hours.To,I x.Room]
abbrev aE3 (xs : List DeviceS) : Ob := .arr 7 (xs.map DeviceS.av)
abbrev lE3 (xs : List DeviceS) : AV := .list 7 (xs.map DeviceS.av)
abbrev aE4 (xs : List MarkS) : Ob := .arr 6 (xs.map MarkS.av)
abbrev lE4 (xs : List MarkS) : AV := .list 6 (xs.map MarkS.av)
abbrev lE2 (xs : List Wave) : AV := .list 4 (xs.map Wave.av)
abbrev cE1 (x : Campaign) : List AV := [.str x.Key,I x.Target.Major,I x.Target.Minor,I x.Target.Patch,I x.At,lE2 x.Waves,I x.Hours.From,I x.Hours.To,I x.Room]
abbrev cE2 (x : Wave) : List AV := [I x.Part,I x.Wait,I x.Least,I x.Fails]
abbrev lE5 (xs : List Pair) : AV := .list 2 (xs.map Pair.av)
abbrev cE3 (x : DeviceS) : List AV := [.str x.Key,.str x.Model,.str x.Tenant,I x.Firmware.Major,I x.Firmware.Minor,I x.Firmware.Patch,lE5 x.Tags]
abbrev fE0 (x : Campaign_course) : List AV := [I x.Standing.Kind,I x.Standing.Since,I x.Standing.Version.Major,I x.Standing.Version.Minor,I x.Standing.Version.Patch,I x.Standing.Fails,I x.offered_.Major,I x.offered_.Minor,I x.offered_.Patch]
abbrev kE0 (b : Bk) (s : Nat → Bk) (x : Campaign_course) : List (Bk × PO) := [(b,.cells [I x.Standing.Kind,I x.Standing.Since,I x.Standing.Version.Major,I x.Standing.Version.Minor,I x.Standing.Version.Patch,I x.Standing.Fails,I x.offered_.Major,I x.offered_.Minor,I x.offered_.Patch])]
theorem KB0 : KB kE0 fE0 := ⟨⟨fun x=>[.v (I x.Standing.Kind),.v (I x.Standing.Since),.v (I x.Standing.Version.Major),.v (I x.Standing.Version.Minor),.v (I x.Standing.Version.Patch),.v (I x.Standing.Fails),.v (I x.offered_.Major),.v (I x.offered_.Minor),.v (I x.offered_.Patch)],fun _ _ _=>J,fun _=>J⟩⟩
abbrev mE6 (xs : List (Str × Int)) : Ob := .mp (xs.map (fun e=>(AV.str e.1,I e.2)))
abbrev aE0 (xs : List Int) : Ob := .arr 1 (xs.map I)
abbrev cE4 (x : MarkS) : List AV := [I x.At,.str x.Device,I x.Kind,I x.Version.Major,I x.Version.Minor,I x.Version.Patch]
abbrev lE7 (xs : List Int) : AV := .list 1 (xs.map (AV.int .u8))
theorem Below_c [GI : GTab] {p0x0 : Int} {p1x0 : Int} {r : Int} (h : Below p0x0 p1x0 = some r) : Pu Tryz.prog 99 [I p0x0,I p1x0] (I r) := by
  unfold Below at h
  refine ACall.bodyN Tryz.func99 J Tryz.ntmps99 Tryz.results99 J J ?_
  refine tSR<|rA J J<|rN<|tS<|tSR<|rM J J<|ARun.qv (q_lss J J) J<|rN<|ATodo.cond_d J (fun hc=>?_) (fun hc=>?_)
  · refine have h := iteT hc h; tSR<|rA J J<|rN<|ATodo.ret<|?_
    obtain rfl := Option.some.inj h
    exact ImpX.here ⟨_,.cons (.tmp _ _ J) .nil,J⟩
  · refine have h := iteF hc h; tK<|tSR<|rM J J<|rM J J<|bndE h fun n1 e1 h=>ARun.qv (t_remS J J e1) J<|rA J J<|rN<|tS<|tSR<|rM J J<|ARun.qv (q_lss J J) J<|rN<|ATodo.cut (fun σ'=>∃ (n2 : Int),Below_j1 n2 = some r ∧ σ' = ⟨16,[(0,I n2)],[]⟩) ?_ ?_
    · refine ATodo.cond_d J (fun hc=>?_) (fun hc=>?_)
      · exact have h := iteT hc h; tR<|rM J J<|rM J J<|ARun.qv (q_addw J J) J<|rA J J<|rN<|ATodo.stop<|ImpX.lq [] ⟨w64 (n1 + p1x0),h,J⟩ J J
      · exact have h := iteF hc h; tK<|ATodo.stop<|ImpX.lq [] ⟨n1,h,J⟩ J J
    · rintro σ' ⟨n2, h, rfl⟩
      unfold Below_j1 at h
      refine tSR<|rM J J<|rA J J<|rN<|ATodo.ret<|?_
      obtain rfl := Option.some.inj h
      exact ImpX.here ⟨_,.cons (.tmp _ _ J) .nil,J⟩

theorem Stream_Next_c [GI : GTab] {b_0 : Bk} {p0x0 : Fleetmake_Stream} {p1x0 : Int} {r : Int × Fleetmake_Stream} (h : Stream_Next p0x0 p1x0 = some r) : ACall Tryz.prog 42 [.ptr b_0 0,I p1x0] [(b_0,.cells [lE0 p0x0.L,I p0x0.at_])] (T0 ([(b_0,.cells [lE0 r.2.L,I r.2.at_])]) (I r.1)) := by
  unfold Stream_Next at h
  refine ACall.lessH ?_
  refine ACall.bodyN Tryz.func42 J Tryz.ntmps42 Tryz.results42 J J ?_
  refine tSR<|rA J J<|rN<|tSR<|rM J J<|ARun.qv (q_nilCheck_ptr J) J<|rF J J J<|rL J J .p0 J J<|ARun.qv (q_addw J J) J<|ARun.qv (q_nilCheck_ptr J) J<|rF J J J<|n_store_ptr J J J J .p0 J J<|rN<|tS<|tSR<|rM J J<|ARun.qv (q_nilCheck_ptr J) J<|rF J J J<|rL J J .p0 J J<|ARun.qv (t_len J) J<|ARun.qv (q_eql J J) J<|rN<|ATodo.cond_d J (fun hc=>?_) (fun hc=>?_)
  · refine have h := iteT hc h; tSR<|rM J J<|ARun.qv (q_nilCheck_ptr J) J<|rF J J J<|rL J J .p0 J J<|ARun.qv (q_mulw J J) J<|rM J J<|bndE h fun v1 e1 h=>r_callp J (Below_c e1) (CoL.refl _) J<|rA J J<|rN<|ATodo.ret<|?_
    obtain rfl := Option.some.inj h
    exact ImpX.here ⟨_,.cons (.tmp _ _ J) .nil,_,.cons .p0 .nil,⟨J,J⟩⟩
  · refine have h := iteF hc h; tK<|tS<|ATodo.regionM (id := 4) (A := [0,1,3,7,15,0,32,96,224,480,1023,2047]) 12 mixed J (by kernel_rfl) (by kernel_rfl)<|AM.qv (q_move J) J<|AM.qv (q_nilCheck_ptr J) J<|AM.qv (n_field_ptr J J) J<|AM.qv (q_load_ptr J J .p0 J) J<|AM.qv (q_subw J J) J<|AM.qv (q_move J) J<|AM.qv (q_nilCheck_ptr J) J<|AM.qv (n_field_ptr J J) J<|AM.qv (q_load_ptr J J .p0 J) J<|AM.qv (t_len J) J<|bndE h fun n2 e2 h=>AM.qv (t_remS J J e2) J<|AM.qv (q_assign J) J<|AM.nil<|rN<|tS<|ATodo.regionM (id := 5) (A := [0,1,3,7,15,0,32,96,224,480,1023,2047]) 12 mixed J (by kernel_rfl) (by kernel_rfl)<|AM.qv (q_move J) J<|AM.qv (q_nilCheck_ptr J) J<|AM.qv (n_field_ptr J J) J<|AM.qv (q_load_ptr J J .p0 J) J<|AM.qv (q_subw J J) J<|AM.qv (q_move J) J<|AM.qv (q_nilCheck_ptr J) J<|AM.qv (n_field_ptr J J) J<|AM.qv (q_load_ptr J J .p0 J) J<|AM.qv (t_len J) J<|bndE h fun n3 e3 h=>AM.qv (t_quoS J J e3) J<|AM.qv (q_assign J) J<|AM.nil<|rN<|tSR<|rM J J<|ARun.qv (q_nilCheck_ptr J) J<|rF J J J<|rL J J .p0 J J<|rM J J<|bndE h fun v4 e4 h=>ARun.qv (t_index J J J e4 J J) J<|ARun.qv (q_load_rptr J J J) J<|bndE h fun v5 e5 h=>r_callp J (Below_c e5) (CoL.refl _) J<|rM J J<|rM J J<|ARun.qv (q_addw J J) J<|ARun.qv (q_mulw J J) J<|ARun.qv (q_addw J J) J<|rM J J<|bndE h fun v6 e6 h=>r_callp J (Below_c e6) (CoL.refl _) J<|rA J J<|rN<|ATodo.ret<|?_
    obtain rfl := Option.some.inj h
    exact ImpX.here ⟨_,.cons (.tmp _ _ J) .nil,_,.cons .p0 .nil,⟨J,J⟩⟩

theorem Stream_Some_c [GI : GTab] {b_0 : Bk} {p0x0 : Fleetmake_Stream} {p1x0 : List Str} {r : Str × Fleetmake_Stream} (h : Stream_Some p0x0 p1x0 = some r) : ACall Tryz.prog 43 [.ptr b_0 0,lE1 p1x0] [(b_0,.cells [lE0 p0x0.L,I p0x0.at_])] (T0 ([(b_0,.cells [lE0 r.2.L,I r.2.at_])]) (.str r.1)) := by
  unfold Stream_Some at h
  refine ACall.lessH ?_
  refine ACall.bodyN Tryz.func43 J Tryz.ntmps43 Tryz.results43 J J ?_
  refine tSR<|rA J J<|rN<|tSR<|rM J J<|rM J J<|rM J J<|ARun.qv (t_len J) J<|bndE h fun v1 e1 h=>t_call0 J (Stream_Next_c e1) (CoL.refl _) (.cons .p0 .nil) J J<|bndE h fun v2 e2 h=>ARun.qv (t_index J J J e2 J J) J<|ARun.qv (q_load_rptr J J J) J<|rA J J<|rN<|ATodo.ret<|?_
  obtain rfl := Option.some.inj h
  exact ImpX.here ⟨_,.cons (.tmp _ _ J) .nil,_,.cons .p0 .nil,⟨J,J⟩⟩

theorem Stream_Pick_c [GI : GTab] {b_0 : Bk} {p0x0 : Fleetmake_Stream} {p1x0 : List Int} {r : Int × Fleetmake_Stream} (h : Stream_Pick p0x0 p1x0 = some r) : ACall Tryz.prog 9 [.ptr b_0 0,lE0 p1x0] [(b_0,.cells [lE0 p0x0.L,I p0x0.at_])] (T0 ([(b_0,.cells [lE0 r.2.L,I r.2.at_])]) (I r.1)) := by
  unfold Stream_Pick at h
  refine ACall.lessH ?_
  refine ACall.bodyN Tryz.func9 J Tryz.ntmps9 Tryz.results9 J J ?_
  refine tSR<|rA J J<|rN<|tSR<|rM J J<|rM J J<|rM J J<|ARun.qv (t_len J) J<|bndE h fun v1 e1 h=>t_call0 J (Stream_Next_c e1) (CoL.refl _) (.cons .p0 .nil) J J<|bndE h fun v2 e2 h=>ARun.qv (t_index J J J e2 J J) J<|ARun.qv (q_load_rptr J J J) J<|rA J J<|rN<|ATodo.ret<|?_
  obtain rfl := Option.some.inj h
  exact ImpX.here ⟨_,.cons (.tmp _ _ J) .nil,_,.cons .p0 .nil,⟨J,J⟩⟩

theorem whole_c [GI : GTab] {p0x0 : Int} {r : Version} (h : whole p0x0 = r) : Pu Tryz.prog 46 [I p0x0] (Version.av r) := by
  unfold whole at h
  refine ACall.bodyN Tryz.func46 J Tryz.ntmps46 Tryz.results46 J J ?_
  refine tSR<|n_alloc J J J J fun b1=>rN<|tSR<|rM J J<|ARun.qv (n_build J J J J J) J<|n_store_ptr J J J J .p0 J J<|rN<|ATodo.ret<|?_
  obtain rfl := h
  exact ImpX.here ⟨_,.cons (.all _ _ _ _ _ _ J .p0 TUnder.h TInfo.h J J) .nil,J⟩

theorem Stream_Flip_c [GI : GTab] {b_0 : Bk} {p0x0 : Fleetmake_Stream} {p1x0 : Int} {r : Bool × Fleetmake_Stream} (h : Stream_Flip p0x0 p1x0 = some r) : ACall Tryz.prog 35 [.ptr b_0 0,I p1x0] [(b_0,.cells [lE0 p0x0.L,I p0x0.at_])] (T0 ([(b_0,.cells [lE0 r.2.L,I r.2.at_])]) (.bool r.1)) := by
  unfold Stream_Flip at h
  refine ACall.lessH ?_
  refine ACall.bodyN Tryz.func35 J Tryz.ntmps35 Tryz.results35 J J ?_
  refine tSR<|rA J J<|rN<|tSR<|rM J J<|rM J J<|bndE h fun v1 e1 h=>t_call0 J (Stream_Next_c e1) (CoL.refl _) (.cons .p0 .nil) J J<|ARun.qv (q_eql J J) J<|rA J J<|rN<|ATodo.ret<|?_
  obtain rfl := Option.some.inj h
  exact ImpX.here ⟨_,.cons (.tmp _ _ J) .nil,_,.cons .p0 .nil,⟨J,J⟩⟩

theorem Stream_RightCampaign_c [GI : GTab] {b_0 : Bk} {p0x0 : Fleetmake_Stream} {r : Campaign × Fleetmake_Stream} (h : Stream_RightCampaign p0x0 = some r) : ACall Tryz.prog 41 [.ptr b_0 0] [(b_0,.cells [lE0 p0x0.L,I p0x0.at_])] (T1 (fun d_0x5=>[(b_0,.cells [lE0 r.2.L,I r.2.at_]),(d_0x5,aE2 r.1.Waves)]) (fun d_0x5=>.agg [.str r.1.Key,I r.1.Target.Major,I r.1.Target.Minor,I r.1.Target.Patch,I r.1.At,.sl 4 d_0x5 0 r.1.Waves.length,I r.1.Hours.From,I r.1.Hours.To,I r.1.Room])) := by
  unfold Stream_RightCampaign at h
  refine ACall.lessH ?_
  refine ACall.bodyN Tryz.func41 J Tryz.ntmps41 Tryz.results41 J J ?_
  refine tSR<|n_alloc J J J J fun b1=>rN<|tSR<|rM J J<|n_buildSliceL (xs := ([([99] : Str),([107] : Str),([122,57] : Str)]).map AV.str) J J J J J J<|bndE h fun v2 e1 h=>t_call0 J (Stream_Some_c e1) (CoL.refl _) (.cons .p1 .nil) J J<|rM J J<|n_buildSliceL (xs := ([(2 : Int),(3 : Int),(4 : Int)]).map I) J J J J J J<|bndE h fun v3 e2 h=>t_call0 J (Stream_Pick_c e2) (CoL.refl _) (.cons .p0 .nil) J J<|r_callp J (whole_c J) (CoL.refl _) J<|rM J J<|n_buildSliceL (xs := ([(0 : Int),(10 : Int),(100 : Int)]).map I) J J J J J J<|bndE h fun v4 e3 h=>t_call0 J (Stream_Pick_c e3) (CoL.refl _) (.cons .p0 .nil) J J<|rM J J<|n_buildSliceL (xs := ([(1 : Int),(2 : Int),(5 : Int)]).map I) J J J J J J<|bndE h fun v5 e4 h=>t_call0 J (Stream_Pick_c e4) (CoL.refl _) (.cons .p0 .nil) J J<|ARun.qv (n_build J J J J J) J<|n_alloc J J J J fun b6=>n_store_ptr J J J J .p0 J J<|rN<|tSR<|n_buildSliceL (xs := ([(1000 : Int)]).map I) J J J J J J<|n_buildSliceL (xs := ([(500 : Int),(500 : Int)]).map I) J J J J J J<|n_buildSliceL (xs := ([(200 : Int),(300 : Int),(500 : Int)]).map I) J J J J J J<|n_buildSliceL (xs := ([(100 : Int),(900 : Int)]).map I) J J J J J J<|n_buildSliceL (xs := ([[(1000 : Int)],[(500 : Int),(500 : Int)],[(200 : Int),(300 : Int),(500 : Int)],[(100 : Int),(900 : Int)]]).map (encL 1 I)) J J J J J J<|rM J J<|bndE h fun v7 e5 h=>t_call0 J (Stream_Next_c e5) (CoL.refl _) (.cons .p1 .nil) J J<|bndE h fun v8 e6 h=>ARun.qv (t_index J J J e6 J J) J<|ARun.qv (q_load_rptr J J J) J<|rA J J<|rN<|tS<|tSR<|rM J J<|ARun.qv (t_len J) J<|rM J J<|rN<|ATodo.block<|ATodo.loopI (fun x : (List Int) × Int × (List Wave) × Int=>Stream_RightCampaign_b1 v2 v3 v4 v5 v8 x.1 x.2.1 x.2.2.1 x.2.2.2) (fun x σ'=>∃ (b16 : Bk),σ' = ⟨64,[(0,.ptr b_0 0),(2,.ptr b1 0),(3,.ptr b6 0),(30,lE0 v8),(31,I (v8.length : Int)),(32,I x.2.2.2)],[(b_0,.cells [lE0 x.1,I x.2.1]),(b1,.cells [.str [],I (0 : Int),I (0 : Int),I (0 : Int),I (0 : Int),.nil,I (0 : Int),I (0 : Int),I (0 : Int)]),(b6,.cells [.str v2.1,I ((whole v3.1).Major),I ((whole v3.1).Minor),I ((whole v3.1).Patch),I v4.1,.sl 4 b16 0 x.2.2.1.length,I (0 : Int),I (0 : Int),I v5.1]),(b16,aE2 x.2.2.1)]⟩) h ?_ ?_
  · exact ImpX.arrBox (j := 5) 4 (fun _=>.p1) J (fun _=>J) (fun _=>J) fun b19=>ImpX.lq [1,2,1,0] ⟨b19,J⟩ J J
  · intro x z1 σ' J1 hmk h hJ1 hA1
    obtain ⟨l14, n15, l17, n18⟩ := x
    obtain ⟨b16, rfl⟩ := hmk
    replace h : Stream_RightCampaign_b1 v2 v3 v4 v5 v8 l14 n15 l17 n18 = some z1 := h
    unfold Stream_RightCampaign_b1 at h
    refine tSR<|ARun.qv (q_lss J J) J<|rN<|tS<|ATodo.cond_d J (fun hc=>?_) (fun hc=>?_)
    · refine have h := iteT hc h; tK<|tS<|ATodo.block<|tSR<|bndE h fun v20 e7 h=>ARun.qv (t_index J J J e7 J J) J<|ARun.qv (q_load_rptr J J J) J<|rA J J<|rN<|bndE h fun v21 e8 h=>bndE h fun v22 e9 h=>bndE h fun v23 e10 h=>ATodo.regionT (id := 6) (A := [0,1,0,0,0,24,0,0,248,0,0,2040,4092,8188,16383,32767,65535]) (H0 := [(b_0,.cells [lE0 l14,I n15])]) (HH := fun β=>[(b_0,.cells [lE0 v23.2.L,I v23.2.at_]),(b1,.cells [.str [],I (0 : Int),I (0 : Int),I (0 : Int),I (0 : Int),.nil,I (0 : Int),I (0 : Int),I (0 : Int)]),(b6,.cells [.str v2.1,I ((whole v3.1).Major),I ((whole v3.1).Minor),I ((whole v3.1).Patch),I v4.1,.sl 4 b16 0 l17.length,I (0 : Int),I (0 : Int),I v5.1]),(b16,aE2 l17)]) 14 mixed J (by kernel_rfl) (by kernel_rfl) [⟨none,some 5,[],fun _=>(b_0,.cells [lE0 l14,I n15]),none,[]⟩,⟨some 5,some 8,[],fun _=>(b_0,.cells [lE0 v21.2.L,I v21.2.at_]),none,[]⟩,⟨some 8,some 11,[],fun _=>(b_0,.cells [lE0 v22.2.L,I v22.2.at_]),none,[]⟩,⟨some 11,none,[],fun _=>(b_0,.cells [lE0 v23.2.L,I v23.2.at_]),none,[]⟩] [] J (by kernel_rfl) J (.cons .p0 .nil) (fun _=>J)<|AT.am 5 J J<|AM.qv (n_field_ptr J J) J<|AM.qv (q_load_ptr J J .p1 J) J<|AM.qv (q_move J) J<|AM.qv (q_move J) J<|AM.buildSliceL (xs := ([(0 : Int),(0 : Int),(10 : Int),(30 : Int)]).map I) J J J J J J<|AM.nil<|AT.runS (av := I v21.1) (Ti := [(b_0,.cells [lE0 l14,I n15])]) (Pi := [(b_0,.cells [lE0 v21.2.L,I v21.2.at_])]) (fun _=>J) (fun _=>J) (fun _=>J) J J J ?_ ?_
      · exact t_call0 J (Stream_Pick_c e8) (CoL.refl _) (.cons .p0 .nil) J J<|ARun.nil ⟨_,J,J⟩
      refine AT.am 2 J J<|AM.qv (q_move J) J<|AM.buildSliceL (xs := ([(1 : Int),(1 : Int),(2 : Int),(3 : Int)]).map I) J J J J J J<|AM.nil<|AT.runS (av := I v22.1) (Ti := [(b_0,.cells [lE0 v21.2.L,I v21.2.at_])]) (Pi := [(b_0,.cells [lE0 v22.2.L,I v22.2.at_])]) (fun _=>J) (fun _=>J) (fun _=>J) J J J ?_ ?_
      · exact t_call0 J (Stream_Pick_c e9) (CoL.refl _) (.cons .p0 .nil) J J<|ARun.nil ⟨_,J,J⟩
      refine AT.am 2 J J<|AM.qv (q_move J) J<|AM.buildSliceL (xs := ([(0 : Int),(300 : Int),(500 : Int),(1000 : Int)]).map I) J J J J J J<|AM.nil<|AT.runS (av := I v23.1) (Ti := [(b_0,.cells [lE0 v22.2.L,I v22.2.at_])]) (Pi := [(b_0,.cells [lE0 v23.2.L,I v23.2.at_])]) (fun _=>J) (fun _=>J) (fun _=>J) J J J ?_ ?_
      · exact t_call0 J (Stream_Pick_c e10) (CoL.refl _) (.cons .p0 .nil) J J<|ARun.nil ⟨_,J,J⟩
      refine AT.am 2 J J<|AM.qv (n_build J J J J J) J<|AM.buildSliceL (xs := ([(⟨v20,v21.1,v22.1,v23.1⟩ : Wave)]).map Wave.av) J J J J J J<|AM.nil<|AT.nilN (fun _=>J) fun β=>bndE h fun l24 e11 h=>t_append (g := Wave.av) J J J J J J J J (.list _) e11 (fun _=>.p3) J fun b25=>rF J J J<|n_store_ptr J J J J .p2 J J<|rN<|ATodo.blk<|tR<|ARun.qv (q_addw J J) J<|rM J J<|rN<|ATodo.stop<|?_
      obtain rfl := Option.some.inj h
      exact hJ1 _ _ J<|ImpX.lq [0,0,0,0] ⟨b25,J⟩ J J
    · refine have h := iteF hc h; ATodo.exit J<|have h := outL h hA1; ?_
      unfold Stream_RightCampaign_k2 at h
      refine tS<|tSR<|rM J J<|bndE h fun v26 e12 h=>t_call0 J (Stream_Flip_c e12) (CoL.refl _) (.cons .p0 .nil) J J<|rN<|ATodo.cut (fun σ'=>∃ (l27 : List Int) (n28 : Int) (n29 : Int) (n30 : Int),Stream_RightCampaign_j1 v2 v3 v4 v5 l17 l27 n28 n29 n30 = some r ∧ σ' = ⟨64,[(2,.ptr b1 0),(3,.ptr b6 0)],[(b_0,.cells [lE0 l27,I n28]),(b1,.cells [.str [],I (0 : Int),I (0 : Int),I (0 : Int),I (0 : Int),.nil,I (0 : Int),I (0 : Int),I (0 : Int)]),(b6,.cells [.str v2.1,I ((whole v3.1).Major),I ((whole v3.1).Minor),I ((whole v3.1).Patch),I v4.1,.sl 4 b16 0 l17.length,I n29,I n30,I v5.1]),(b16,aE2 l17)]⟩) ?_ ?_
      · refine ATodo.cond J (fun hc=>?_) (fun hc=>?_)
        · exact have h := iteT hc h; tR<|rM J J<|n_buildSliceL (xs := ([(0 : Int),(50 : Int),(3600000 : Int)]).map I) J J J J J J<|bndE h fun v31 e13 h=>t_call0 J (Stream_Pick_c e13) (CoL.refl _) (.cons .p0 .nil) J J<|rM J J<|n_buildSliceL (xs := ([(0 : Int),(40 : Int),(200 : Int),(86400000 : Int)]).map I) J J J J J J<|bndE h fun v32 e14 h=>t_call0 J (Stream_Pick_c e14) (CoL.refl _) (.cons .p0 .nil) J J<|ARun.qv (n_build J J J J J) J<|rF J J J<|n_store_ptr J J J J .p2 J J<|rN<|ATodo.stop<|ImpX.lq [0,0,0,0] ⟨v32.2.L,v32.2.at_,v31.1,v32.1,h,J⟩ J J
        · exact have h := iteFb hc h; tK<|ATodo.stop<|ImpX.lq [0,0,0,0] ⟨v26.2.L,v26.2.at_,(0 : Int),(0 : Int),h,J⟩ J J
      · rintro σ' ⟨l27, n28, n29, n30, h, rfl⟩
        unfold Stream_RightCampaign_j1 at h
        refine tSR<|ARun.qv (q_load_ptr_all J J .p2 J) J<|n_store_ptr J J J J .p1 J J<|rN<|ATodo.ret<|?_
        obtain rfl := Option.some.inj h
        exact ImpX.here ⟨_,.cons (.all _ _ _ _ _ _ J .p1 TUnder.h TInfo.h J J) .nil,_,.cons .p0 (.cons .p2 .nil),⟨b16,J,J⟩⟩

theorem Stream_Range_c [GI : GTab] {b_0 : Bk} {p0x0 : Fleetmake_Stream} {p1x0 : Int} {p2x0 : Int} {r : Int × Fleetmake_Stream} (h : Stream_Range p0x0 p1x0 p2x0 = some r) : ACall Tryz.prog 11 [.ptr b_0 0,I p1x0,I p2x0] [(b_0,.cells [lE0 p0x0.L,I p0x0.at_])] (T0 ([(b_0,.cells [lE0 r.2.L,I r.2.at_])]) (I r.1)) := by
  unfold Stream_Range at h
  refine ACall.lessH ?_
  refine ACall.bodyN Tryz.func11 J Tryz.ntmps11 Tryz.results11 J J ?_
  refine tSR<|rA J J<|rN<|tS<|tSR<|rM J J<|rM J J<|ARun.qv (q_lss J J) J<|rN<|ATodo.cond_d J (fun hc=>?_) (fun hc=>?_)
  · refine have h := iteT hc h; tSR<|rM J J<|rA J J<|rN<|ATodo.ret<|?_
    obtain rfl := Option.some.inj h
    exact ImpX.here ⟨_,.cons (.tmp _ _ J) .nil,_,.cons .p0 .nil,⟨J,J⟩⟩
  · refine have h := iteF hc h; tK<|tSR<|rM J J<|rM J J<|rM J J<|rM J J<|ARun.qv (q_subw J J) J<|ARun.qv (q_addw J J) J<|bndE h fun v1 e1 h=>t_call0 J (Stream_Next_c e1) (CoL.refl _) (.cons .p0 .nil) J J<|ARun.qv (q_addw J J) J<|rA J J<|rN<|ATodo.ret<|?_
    obtain rfl := Option.some.inj h
    exact ImpX.here ⟨_,.cons (.tmp _ _ J) .nil,_,.cons .p0 .nil,⟨J,J⟩⟩

theorem Stream_RightVersion_c [GI : GTab] {b_0 : Bk} {p0x0 : Fleetmake_Stream} {r : Version × Fleetmake_Stream} (h : Stream_RightVersion p0x0 = some r) : ACall Tryz.prog 100 [.ptr b_0 0] [(b_0,.cells [lE0 p0x0.L,I p0x0.at_])] (T0 ([(b_0,.cells [lE0 r.2.L,I r.2.at_])]) (Version.av r.1)) := by
  unfold Stream_RightVersion at h
  refine ACall.lessH ?_
  refine ACall.bodyN Tryz.func100 J Tryz.ntmps100 Tryz.results100 J J ?_
  refine tSR<|n_alloc J J J J fun b1=>rN<|tSR<|rM J J<|bndE h fun v2 e1 h=>t_call0 J (Stream_Range_c e1) (CoL.refl _) (.cons .p1 .nil) J J<|rM J J<|n_buildSliceL (xs := ([(0 : Int),(0 : Int),(1 : Int),(5 : Int),(9999 : Int)]).map I) J J J J J J<|bndE h fun v3 e2 h=>t_call0 J (Stream_Pick_c e2) (CoL.refl _) (.cons .p0 .nil) J J<|rM J J<|n_buildSliceL (xs := ([(0 : Int),(0 : Int),(0 : Int),(3 : Int),(9999 : Int)]).map I) J J J J J J<|bndE h fun v4 e3 h=>t_call0 J (Stream_Pick_c e3) (CoL.refl _) (.cons .p0 .nil) J J<|ARun.qv (n_build J J J J J) J<|n_store_ptr J J J J .p1 J J<|rN<|ATodo.ret<|?_
  obtain rfl := Option.some.inj h
  exact ImpX.here ⟨_,.cons (.all _ _ _ _ _ _ J .p1 TUnder.h TInfo.h J J) .nil,_,.cons .p0 .nil,⟨J,J⟩⟩

theorem Stream_Odd_c [GI : GTab] {b_0 : Bk} {p0x0 : Fleetmake_Stream} {p1x0 : Int} {p2x0 : Int} {r : Int × Fleetmake_Stream} (h : Stream_Odd p0x0 p1x0 p2x0 = some r) : ACall Tryz.prog 36 [.ptr b_0 0,I p1x0,I p2x0] [(b_0,.cells [lE0 p0x0.L,I p0x0.at_])] (T0 ([(b_0,.cells [lE0 r.2.L,I r.2.at_])]) (I r.1)) := by
  unfold Stream_Odd at h
  refine ACall.lessH ?_
  refine ACall.bodyN Tryz.func36 J Tryz.ntmps36 Tryz.results36 J J ?_
  refine tSR<|rA J J<|rN<|tS<|tSR<|rM J J<|bndE h fun v1 e1 h=>t_call0 J (Stream_Flip_c e1) (CoL.refl _) (.cons .p0 .nil) J J<|rN<|ATodo.cond J (fun hc=>?_) (fun hc=>?_)
  · refine have h := iteT hc h; tSR<|rM J J<|rM J J<|ARun.qv (q_subw J J) J<|rM J J<|ARun.qv (q_addw J J) J<|rM J J<|rM J J<|n_buildSliceL (xs := ([w64 (p1x0 - (1 : Int)),w64 (p2x0 + (1 : Int)),p1x0,p2x0,(-1099511627776 : Int),(1099511627776 : Int)]).map I) J J J J J J<|bndE h fun v2 e2 h=>t_call0 J (Stream_Pick_c e2) (CoL.refl _) (.cons .p0 .nil) J J<|rA J J<|rN<|ATodo.ret<|?_
    obtain rfl := Option.some.inj h
    exact ImpX.here ⟨_,.cons (.tmp _ _ J) .nil,_,.cons .p0 .nil,⟨J,J⟩⟩
  · refine have h := iteFb hc h; tK<|tSR<|rM J J<|rM J J<|rM J J<|bndE h fun v3 e3 h=>t_call0 J (Stream_Range_c e3) (CoL.refl _) (.cons .p0 .nil) J J<|rA J J<|rN<|ATodo.ret<|?_
    obtain rfl := Option.some.inj h
    exact ImpX.here ⟨_,.cons (.tmp _ _ J) .nil,_,.cons .p0 .nil,⟨J,J⟩⟩

theorem Stream_Version_c [GI : GTab] {b_0 : Bk} {p0x0 : Fleetmake_Stream} {r : Version × Fleetmake_Stream} (h : Stream_Version p0x0 = some r) : ACall Tryz.prog 44 [.ptr b_0 0] [(b_0,.cells [lE0 p0x0.L,I p0x0.at_])] (T0 ([(b_0,.cells [lE0 r.2.L,I r.2.at_])]) (Version.av r.1)) := by
  unfold Stream_Version at h
  refine ACall.lessH ?_
  refine ACall.bodyN Tryz.func44 J Tryz.ntmps44 Tryz.results44 J J ?_
  refine tSR<|n_alloc J J J J fun b1=>rN<|tSR<|rM J J<|bndE h fun v2 e1 h=>t_call0 J (Stream_RightVersion_c e1) (CoL.refl _) (.cons .p1 .nil) J J<|n_alloc J J J J fun b3=>n_store_ptr J J J J .p0 J J<|rN<|tS<|tSR<|rM J J<|bndE h fun v4 e2 h=>t_call0 J (Stream_Flip_c e2) (CoL.refl _) (.cons .p1 .nil) J J<|rN<|ATodo.cut (fun σ'=>∃ (l5 : List Int) (n6 : Int) (n7 : Int) (n8 : Int),Stream_Version_j1 v2 l5 n6 n7 n8 = some r ∧ σ' = ⟨15,[(2,.ptr b1 0),(3,.ptr b3 0)],[(b_0,.cells [lE0 l5,I n6]),(b1,.cells [I (0 : Int),I (0 : Int),I (0 : Int)]),(b3,.cells [I v2.1.Major,I n7,I n8])]⟩) ?_ ?_
  · refine ATodo.cond J (fun hc=>?_) (fun hc=>?_)
    · exact have h := iteT hc h; tSR<|rM J J<|bndE h fun v9 e3 h=>t_call0 J (Stream_Odd_c e3) (CoL.refl _) (.cons .p0 .nil) J J<|rF J J J<|n_store_ptr J J J J .p1 J J<|rN<|tR<|rM J J<|bndE h fun v10 e4 h=>t_call0 J (Stream_Odd_c e4) (CoL.refl _) (.cons .p0 .nil) J J<|rF J J J<|n_store_ptr J J J J .p1 J J<|rN<|ATodo.stop<|ImpX.lq [0,1,0] ⟨v10.2.L,v10.2.at_,v10.1,v9.1,h,J⟩ J J
    · exact have h := iteFb hc h; tK<|ATodo.stop<|ImpX.lq [0,1,0] ⟨v4.2.L,v4.2.at_,v2.1.Minor,v2.1.Patch,h,J⟩ J J
  · rintro σ' ⟨l5, n6, n7, n8, h, rfl⟩
    unfold Stream_Version_j1 at h
    refine tSR<|ARun.qv (q_load_ptr_all J J .p2 J) J<|n_store_ptr J J J J .p1 J J<|rN<|ATodo.ret<|?_
    obtain rfl := Option.some.inj h
    exact ImpX.here ⟨_,.cons (.all _ _ _ _ _ _ J .p1 TUnder.h TInfo.h J J) .nil,_,.cons .p0 .nil,⟨J,J⟩⟩

theorem Stream_Campaign_c [GI : GTab] {b_0 : Bk} {p0x0 : Fleetmake_Stream} {r : Campaign × Fleetmake_Stream} (h : Stream_Campaign p0x0 = some r) : ACall Tryz.prog 7 [.ptr b_0 0] [(b_0,.cells [lE0 p0x0.L,I p0x0.at_])] (T0 ([(b_0,.cells [lE0 r.2.L,I r.2.at_])]) (Campaign.av r.1)) := by
  unfold Stream_Campaign at h
  refine ACall.lessH ?_
  refine ACall.bodyN Tryz.func7 J Tryz.ntmps7 Tryz.results7 J J ?_
  refine tSR<|n_alloc J J J J fun b1=>rN<|tSR<|rM J J<|bndE h fun v2 e1 h=>t_call1 J (Stream_RightCampaign_c e1) (CoL.refl _) (.cons .p1 .nil) (fun _=>J) J fun b3=>n_alloc J J J J fun b4=>n_store_ptr J J J J .p0 J J<|rN<|tS<|tSR<|rM J J<|bndE h fun v5 e2 h=>t_call0 J (Stream_Flip_c e2) (CoL.refl _) (.cons .p1 .nil) J J<|rN<|ATodo.cut (fun σ'=>∃ (b13 : Bk) (l6 : List Int) (n7 : Int) (q8 : Str) (n9 : Int) (n10 : Int) (n11 : Int) (n12 : Int) (l14 : List Wave) (n15 : Int) (n16 : Int) (n17 : Int),Stream_Campaign_j1 l6 n7 q8 n9 n10 n11 n12 l14 n15 n16 n17 = some r ∧ σ' = ⟨54,[(2,.ptr b1 0),(3,.ptr b4 0)],[(b_0,.cells [lE0 l6,I n7]),(b1,.cells [.str [],I (0 : Int),I (0 : Int),I (0 : Int),I (0 : Int),.nil,I (0 : Int),I (0 : Int),I (0 : Int)]),(b4,.cells [.str q8,I n9,I n10,I n11,I n12,.sl 4 b13 0 l14.length,I n15,I n16,I n17]),(b13,aE2 l14)]⟩) ?_ ?_
  · refine ATodo.cond J (fun hc=>?_) (fun hc=>?_)
    · refine have h := iteT hc h; tSR<|rM J J<|bndE h fun v18 e3 h=>t_call0 J (Stream_Next_c e3) (CoL.refl _) (.cons .p0 .nil) J J<|rN<|ATodo.block<|tSR<|ARun.qv (q_eql J J) J<|rA J J<|rN<|ATodo.cut (fun σ'=>∃ (b26 : Bk) (l19 : List Int) (n20 : Int) (q21 : Str) (n22 : Int) (n23 : Int) (n24 : Int) (n25 : Int) (l27 : List Wave) (n28 : Int) (n29 : Int) (n30 : Int),Stream_Campaign_j2 l19 n20 q21 n22 n23 n24 n25 l27 n28 n29 n30 = some r ∧ σ' = ⟨54,[(2,.ptr b1 0),(3,.ptr b4 0)],[(b_0,.cells [lE0 l19,I n20]),(b1,.cells [.str [],I (0 : Int),I (0 : Int),I (0 : Int),I (0 : Int),.nil,I (0 : Int),I (0 : Int),I (0 : Int)]),(b4,.cells [.str q21,I n22,I n23,I n24,I n25,.sl 4 b26 0 l27.length,I n28,I n29,I n30]),(b26,aE2 l27)]⟩) ?_ ?_
      · refine ATodo.cond_d J (fun hc=>?_) (fun hc=>?_)
        · exact have h := iteT hc h; tR<|rM J J<|n_buildSliceL (xs := ([([] : Str),([65] : Str)]).map AV.str) J J J J J J<|bndE h fun v31 e4 h=>t_call0 J (Stream_Some_c e4) (CoL.refl _) (.cons .p0 .nil) J J<|rF J J J<|n_store_ptr J J J J .p1 J J<|rN<|ATodo.stop<|ImpX.lq [0,2,0,0] ⟨b3,v31.2.L,v31.2.at_,v31.1,v2.1.Target.Major,v2.1.Target.Minor,v2.1.Target.Patch,v2.1.At,v2.1.Waves,v2.1.Hours.From,v2.1.Hours.To,v2.1.Room,h,J⟩ J J
        · refine have h := iteF hc h; tSR<|ARun.qv (q_eql J J) J<|rA J J<|rN<|ATodo.cut (fun σ'=>∃ (b38 : Bk) (l32 : List Int) (n33 : Int) (n34 : Int) (n35 : Int) (n36 : Int) (n37 : Int) (l39 : List Wave) (n40 : Int) (n41 : Int) (n42 : Int),Stream_Campaign_j3 v2 l32 n33 n34 n35 n36 n37 l39 n40 n41 n42 = some r ∧ σ' = ⟨54,[(2,.ptr b1 0),(3,.ptr b4 0)],[(b_0,.cells [lE0 l32,I n33]),(b1,.cells [.str [],I (0 : Int),I (0 : Int),I (0 : Int),I (0 : Int),.nil,I (0 : Int),I (0 : Int),I (0 : Int)]),(b4,.cells [.str v2.1.Key,I n34,I n35,I n36,I n37,.sl 4 b38 0 l39.length,I n40,I n41,I n42]),(b38,aE2 l39)]⟩) ?_ ?_
          · refine ATodo.cond_d J (fun hc=>?_) (fun hc=>?_)
            · exact have h := iteT hc h; tR<|rM J J<|bndE h fun v43 e5 h=>t_call0 J (Stream_Version_c e5) (CoL.refl _) (.cons .p0 .nil) J J<|rF J J J<|n_store_ptr J J J J .p1 J J<|rN<|ATodo.stop<|ImpX.lq [0,2,0,0] ⟨b3,v43.2.L,v43.2.at_,v43.1.Major,v43.1.Minor,v43.1.Patch,v2.1.At,v2.1.Waves,v2.1.Hours.From,v2.1.Hours.To,v2.1.Room,h,J⟩ J J
            · refine have h := iteF hc h; tSR<|ARun.qv (q_eql J J) J<|rA J J<|rN<|ATodo.cut (fun σ'=>∃ (b47 : Bk) (l44 : List Int) (n45 : Int) (n46 : Int) (l48 : List Wave) (n49 : Int) (n50 : Int) (n51 : Int),Stream_Campaign_j4 v2 l44 n45 n46 l48 n49 n50 n51 = some r ∧ σ' = ⟨54,[(2,.ptr b1 0),(3,.ptr b4 0)],[(b_0,.cells [lE0 l44,I n45]),(b1,.cells [.str [],I (0 : Int),I (0 : Int),I (0 : Int),I (0 : Int),.nil,I (0 : Int),I (0 : Int),I (0 : Int)]),(b4,.cells [.str v2.1.Key,I v2.1.Target.Major,I v2.1.Target.Minor,I v2.1.Target.Patch,I n46,.sl 4 b47 0 l48.length,I n49,I n50,I n51]),(b47,aE2 l48)]⟩) ?_ ?_
              · refine ATodo.cond_d J (fun hc=>?_) (fun hc=>?_)
                · exact have h := iteT hc h; tR<|rM J J<|bndE h fun v52 e6 h=>t_call0 J (Stream_Odd_c e6) (CoL.refl _) (.cons .p0 .nil) J J<|rF J J J<|n_store_ptr J J J J .p1 J J<|rN<|ATodo.stop<|ImpX.lq [0,2,0,0] ⟨b3,v52.2.L,v52.2.at_,v52.1,v2.1.Waves,v2.1.Hours.From,v2.1.Hours.To,v2.1.Room,h,J⟩ J J
                · refine have h := iteF hc h; tSR<|ARun.qv (q_eql J J) J<|rA J J<|rN<|ATodo.cut (fun σ'=>∃ (b55 : Bk) (l53 : List Int) (n54 : Int) (l56 : List Wave) (n57 : Int) (n58 : Int) (n59 : Int),Stream_Campaign_j5 v2 l53 n54 l56 n57 n58 n59 = some r ∧ σ' = ⟨54,[(2,.ptr b1 0),(3,.ptr b4 0)],[(b_0,.cells [lE0 l53,I n54]),(b1,.cells [.str [],I (0 : Int),I (0 : Int),I (0 : Int),I (0 : Int),.nil,I (0 : Int),I (0 : Int),I (0 : Int)]),(b4,.cells [.str v2.1.Key,I v2.1.Target.Major,I v2.1.Target.Minor,I v2.1.Target.Patch,I v2.1.At,.sl 4 b55 0 l56.length,I n57,I n58,I n59]),(b55,aE2 l56)]⟩) ?_ ?_
                  · refine ATodo.cond_d J (fun hc=>?_) (fun hc=>?_)
                    · refine have h := iteT hc h; bndE h fun v60 e7 h=>bndE h fun v61 e8 h=>bndE h fun v62 e9 h=>bndE h fun v63 e10 h=>ATodo.regionT (id := 12) (A := [0,1,0,4,0,28,0,124,0,508,1020,2044,4095,8191,16383]) (H0 := [(b_0,.cells [lE0 v18.2.L,I v18.2.at_])]) (HH := fun β=>[(b_0,.cells [lE0 v63.2.L,I v63.2.at_]),(b4,.cells (cE0 v2.1 b3)),(b3,aE2 v2.1.Waves),(b1,.cells [.str [],I (0 : Int),I (0 : Int),I (0 : Int),I (0 : Int),.nil,I (0 : Int),I (0 : Int),I (0 : Int)])]) 12 mixed J (by kernel_rfl) (by kernel_rfl) [⟨none,some 3,[],fun _=>(b_0,.cells [lE0 v18.2.L,I v18.2.at_]),none,[]⟩,⟨some 3,some 5,[],fun _=>(b_0,.cells [lE0 v60.2.L,I v60.2.at_]),none,[]⟩,⟨some 5,some 7,[],fun _=>(b_0,.cells [lE0 v61.2.L,I v61.2.at_]),none,[]⟩,⟨some 7,some 9,[],fun _=>(b_0,.cells [lE0 v62.2.L,I v62.2.at_]),none,[]⟩,⟨some 9,none,[],fun _=>(b_0,.cells [lE0 v63.2.L,I v63.2.at_]),none,[]⟩] [] J (by kernel_rfl) J (.cons .p0 .nil) (fun _=>J)<|AT.am 3 J J<|AM.qv (n_field_ptr J J) J<|AM.qv (q_load_ptr J J .p0 J) J<|AM.qv (q_move J) J<|AM.nil<|AT.runS (av := I v60.1) (Ti := [(b_0,.cells [lE0 v18.2.L,I v18.2.at_])]) (Pi := [(b_0,.cells [lE0 v60.2.L,I v60.2.at_])]) (fun _=>J) (fun _=>J) (fun _=>J) J J J ?_ ?_
                      · exact t_call0 J (Stream_Odd_c e7) (CoL.refl _) (.cons .p0 .nil) J J<|ARun.nil ⟨_,J,J⟩
                      refine AT.am 1 J J<|AM.qv (q_move J) J<|AM.nil<|AT.runS (av := I v61.1) (Ti := [(b_0,.cells [lE0 v60.2.L,I v60.2.at_])]) (Pi := [(b_0,.cells [lE0 v61.2.L,I v61.2.at_])]) (fun _=>J) (fun _=>J) (fun _=>J) J J J ?_ ?_
                      · exact t_call0 J (Stream_Odd_c e8) (CoL.refl _) (.cons .p0 .nil) J J<|ARun.nil ⟨_,J,J⟩
                      refine AT.am 1 J J<|AM.qv (q_move J) J<|AM.nil<|AT.runS (av := I v62.1) (Ti := [(b_0,.cells [lE0 v61.2.L,I v61.2.at_])]) (Pi := [(b_0,.cells [lE0 v62.2.L,I v62.2.at_])]) (fun _=>J) (fun _=>J) (fun _=>J) J J J ?_ ?_
                      · exact t_call0 J (Stream_Odd_c e9) (CoL.refl _) (.cons .p0 .nil) J J<|ARun.nil ⟨_,J,J⟩
                      refine AT.am 1 J J<|AM.qv (q_move J) J<|AM.nil<|AT.runS (av := I v63.1) (Ti := [(b_0,.cells [lE0 v62.2.L,I v62.2.at_])]) (Pi := [(b_0,.cells [lE0 v63.2.L,I v63.2.at_])]) (fun _=>J) (fun _=>J) (fun _=>J) J J J ?_ ?_
                      · exact t_call0 J (Stream_Odd_c e10) (CoL.refl _) (.cons .p0 .nil) J J<|ARun.nil ⟨_,J,J⟩
                      exact AT.am 2 J J<|AM.qv (n_build J J J J J) J<|AM.buildSliceL (xs := ([(⟨v60.1,v61.1,v62.1,v63.1⟩ : Wave)]).map Wave.av) J J J J J J<|AM.nil<|AT.nilN (fun _=>J) fun β=>bndE h fun l64 e11 h=>t_append (g := Wave.av) J J J J J J J J (.list _) e11 (fun _=>.p2) J fun b65=>rF J J J<|n_store_ptr J J J J .p1 J J<|rN<|ATodo.stop<|ImpX.lq [0,2,0,0] ⟨b65,v63.2.L,v63.2.at_,l64,v2.1.Hours.From,v2.1.Hours.To,v2.1.Room,h,J⟩ J J
                    · refine have h := iteF hc h; tSR<|ARun.qv (q_eql J J) J<|rA J J<|rN<|ATodo.cut (fun σ'=>∃ (l66 : List Int) (n67 : Int) (n68 : Int) (n69 : Int) (n70 : Int),Stream_Campaign_j6 v2 l66 n67 n68 n69 n70 = some r ∧ σ' = ⟨54,[(2,.ptr b1 0),(3,.ptr b4 0)],[(b_0,.cells [lE0 l66,I n67]),(b1,.cells [.str [],I (0 : Int),I (0 : Int),I (0 : Int),I (0 : Int),.nil,I (0 : Int),I (0 : Int),I (0 : Int)]),(b4,.cells [.str v2.1.Key,I v2.1.Target.Major,I v2.1.Target.Minor,I v2.1.Target.Patch,I v2.1.At,.sl 4 b3 0 v2.1.Waves.length,I n68,I n69,I n70]),(b3,aE2 v2.1.Waves)]⟩) ?_ ?_
                      · refine ATodo.cond_d J (fun hc=>?_) (fun hc=>?_)
                        · exact have h := iteT hc h; tR<|rM J J<|bndE h fun v71 e12 h=>t_call0 J (Stream_Odd_c e12) (CoL.refl _) (.cons .p0 .nil) J J<|rM J J<|bndE h fun v72 e13 h=>t_call0 J (Stream_Odd_c e13) (CoL.refl _) (.cons .p0 .nil) J J<|ARun.qv (n_build J J J J J) J<|rF J J J<|n_store_ptr J J J J .p1 J J<|rN<|ATodo.stop<|ImpX.lq [0,2,0,0] ⟨v72.2.L,v72.2.at_,v71.1,v72.1,v2.1.Room,h,J⟩ J J
                        · exact have h := iteF hc h; tR<|rM J J<|bndE h fun v73 e14 h=>t_call0 J (Stream_Odd_c e14) (CoL.refl _) (.cons .p0 .nil) J J<|rF J J J<|n_store_ptr J J J J .p1 J J<|rN<|ATodo.stop<|ImpX.lq [0,2,0,0] ⟨v73.2.L,v73.2.at_,v2.1.Hours.From,v2.1.Hours.To,v73.1,h,J⟩ J J
                      · rintro σ' ⟨l66, n67, n68, n69, n70, h, rfl⟩
                        unfold Stream_Campaign_j6 at h
                        exact ATodo.stop<|ImpX.lq [0,0,0,0] ⟨b3,l66,n67,v2.1.Waves,n68,n69,n70,h,J⟩ J J
                  · rintro σ' ⟨b55, l53, n54, l56, n57, n58, n59, h, rfl⟩
                    unfold Stream_Campaign_j5 at h
                    exact ATodo.stop<|ImpX.lq [0,0,0,0] ⟨b55,l53,n54,v2.1.At,l56,n57,n58,n59,h,J⟩ J J
              · rintro σ' ⟨b47, l44, n45, n46, l48, n49, n50, n51, h, rfl⟩
                unfold Stream_Campaign_j4 at h
                exact ATodo.stop<|ImpX.lq [0,0,0,0] ⟨b47,l44,n45,v2.1.Target.Major,v2.1.Target.Minor,v2.1.Target.Patch,n46,l48,n49,n50,n51,h,J⟩ J J
          · rintro σ' ⟨b38, l32, n33, n34, n35, n36, n37, l39, n40, n41, n42, h, rfl⟩
            unfold Stream_Campaign_j3 at h
            exact ATodo.stop<|ImpX.lq [0,0,0,0] ⟨b38,l32,n33,v2.1.Key,n34,n35,n36,n37,l39,n40,n41,n42,h,J⟩ J J
      · rintro σ' ⟨b26, l19, n20, q21, n22, n23, n24, n25, l27, n28, n29, n30, h, rfl⟩
        unfold Stream_Campaign_j2 at h
        exact ATodo.blk<|ATodo.stop<|ImpX.lq [0,0,0,0] ⟨b26,l19,n20,q21,n22,n23,n24,n25,l27,n28,n29,n30,h,J⟩ J J
    · exact have h := iteFb hc h; tK<|ATodo.stop<|ImpX.lq [0,2,0,0] ⟨b3,v5.2.L,v5.2.at_,v2.1.Key,v2.1.Target.Major,v2.1.Target.Minor,v2.1.Target.Patch,v2.1.At,v2.1.Waves,v2.1.Hours.From,v2.1.Hours.To,v2.1.Room,h,J⟩ J J
  · rintro σ' ⟨b13, l6, n7, q8, n9, n10, n11, n12, l14, n15, n16, n17, h, rfl⟩
    unfold Stream_Campaign_j1 at h
    refine tSR<|ARun.qv (q_load_ptr_all J J .p2 J) J<|n_store_ptr J J J J .p1 J J<|rN<|ATodo.ret<|?_
    obtain rfl := Option.some.inj h
    exact ImpX.freeze .p3<|ImpX.coBox (j := 5) .p1 J (Co.froT .p3) J J<|ImpX.here ⟨_,.cons (.all _ _ _ _ _ _ J .p1 TUnder.h TInfo.h J J) .nil,_,.cons .p0 .nil,⟨J,J⟩⟩

theorem Stream_RightFleet_c [GI : GTab] {b_0 : Bk} {p0x0 : Fleetmake_Stream} {p1x0 : Int} {r : (List DeviceS) × Fleetmake_Stream} (h : Stream_RightFleet p0x0 p1x0 = some r) : ACall Tryz.prog 45 [.ptr b_0 0,I p1x0] [(b_0,.cells [lE0 p0x0.L,I p0x0.at_])] (T1 (fun d_0=>[(b_0,.cells [lE0 r.2.L,I r.2.at_]),(d_0,aE3 r.1)]) (fun d_0=>.sl 7 d_0 0 r.1.length)) := by
  unfold Stream_RightFleet at h
  refine ACall.lessH ?_
  refine ACall.bodyN Tryz.func45 J Tryz.ntmps45 Tryz.results45 J J ?_
  refine tSR<|rA J J<|rN<|tSR<|rA J J<|rN<|tS<|tSR<|n_buildSliceL (xs := ([([100,49] : Str),([100,50] : Str),([100,51] : Str),([100,52] : Str),([100,53] : Str),([100,54] : Str)]).map AV.str) J J J J J J<|rM J J<|bndE h fun l1 e1 h=>ARun.qv (t_slice_list J J .none (.some _ _ _ J) J J e1) J<|ARun.qv (t_len J) J<|rM J J<|rN<|ATodo.block<|ATodo.loopI (fun x : (List Int) × Int × (List DeviceS) × Int=>Stream_RightFleet_b1 l1 x.1 x.2.1 x.2.2.1 x.2.2.2) (fun x σ'=>∃ (b9 : Bk),σ' = ⟨36,[(0,.ptr b_0 0),(5,.sl 7 b9 0 x.2.2.1.length),(10,lE1 l1),(11,I (l1.length : Int)),(12,I x.2.2.2)],[(b_0,.cells [lE0 x.1,I x.2.1]),(b9,aE3 x.2.2.1)]⟩) h ?_ ?_
  · exact ImpX.arr (s := 5) 7 J fun b12=>ImpX.lq [1,0] ⟨b12,J⟩ J J
  · intro x z1 σ' J1 hmk h hJ1 hA1
    obtain ⟨l7, n8, l10, n11⟩ := x
    obtain ⟨b9, rfl⟩ := hmk
    replace h : Stream_RightFleet_b1 l1 l7 n8 l10 n11 = some z1 := h
    unfold Stream_RightFleet_b1 at h
    refine tSR<|ARun.qv (q_lss J J) J<|rN<|tS<|ATodo.cond_d J (fun hc=>?_) (fun hc=>?_)
    · refine have h := iteT hc h; tK<|tS<|ATodo.block<|tSR<|bndE h fun v13 e2 h=>ARun.qv (t_index J J J e2 J J) J<|ARun.qv (q_load_rptr J J J) J<|rA J J<|rN<|tSR<|rM J J<|bndE h fun v14 e3 h=>t_call0 J (Stream_Flip_c e3) (CoL.refl _) (.cons .p0 .nil) J J<|ARun.qv (q_not J) J<|rN<|ATodo.cut (fun σ'=>∃ (b17 : Bk) (l15 : List Int) (n16 : Int) (l18 : List DeviceS),Stream_RightFleet_j1 n11 l15 n16 l18 = some z1 ∧ σ' = ⟨36,[(0,.ptr b_0 0),(5,.sl 7 b17 0 l18.length),(10,lE1 l1),(11,I (l1.length : Int)),(12,I n11)],[(b_0,.cells [lE0 l15,I n16]),(b17,aE3 l18)]⟩) ?_ ?_
      · refine ATodo.cond J (fun hc=>?_) (fun hc=>?_)
        · exact have h := iteT hc h; tR<|rM J J<|rM J J<|rM J J<|n_buildSliceL (xs := ([([109] : Str),([109] : Str),([109] : Str),([110] : Str)]).map AV.str) J J J J J J<|bndE h fun v19 e4 h=>t_call0 J (Stream_Some_c e4) (CoL.refl _) (.cons .p0 .nil) J J<|rM J J<|n_buildSliceL (xs := ([(1 : Int),(1 : Int),(1 : Int),(2 : Int),(3 : Int)]).map I) J J J J J J<|bndE h fun v20 e5 h=>t_call0 J (Stream_Pick_c e5) (CoL.refl _) (.cons .p0 .nil) J J<|rM J J<|n_buildSliceL (xs := ([(0 : Int),(0 : Int),(5 : Int)]).map I) J J J J J J<|bndE h fun v21 e6 h=>t_call0 J (Stream_Pick_c e6) (CoL.refl _) (.cons .p0 .nil) J J<|ARun.qv (n_build J J J J J) J<|ARun.qv (n_build J J J J J) J<|n_buildSliceL (xs := [.agg [.str v13,.str v19.1,.str ([116] : Str),I v20.1,I v21.1,I (0 : Int),.nil]]) J J J J J J<|ARun.ghost<|ImpX.cox (s := 32) (av' := .list 7 (([(⟨v13,v19.1,([116] : Str),(⟨v20.1,v21.1,(0 : Int)⟩ : Version),[]⟩ : DeviceS)] : List DeviceS).map DeviceS.av)) J (CoX.listL (.cons .r (.cons .r (.cons .r (.cons .r (.cons .r (.cons .r (.cons .n .nil))))))) J J)<|ImpX.here<|bndE h fun l22 e7 h=>t_append (g := DeviceS.av) J J J J J J J J (.list _) e7 (fun _=>.p1) J fun b23=>rA J J<|rN<|ATodo.stop<|ImpX.lq [0,0] ⟨b23,v21.2.L,v21.2.at_,l22,h,J⟩ J J
        · exact have h := iteFb hc h; tK<|ATodo.stop<|ImpX.lq [0,0] ⟨b9,v14.2.L,v14.2.at_,l10,h,J⟩ J J
      · rintro σ' ⟨b17, l15, n16, l18, h, rfl⟩
        unfold Stream_RightFleet_j1 at h
        refine ATodo.blk<|tR<|ARun.qv (q_addw J J) J<|rM J J<|rN<|ATodo.stop<|?_
        obtain rfl := Option.some.inj h
        exact hJ1 _ _ J<|ImpX.lq [0,0] ⟨b17,J⟩ J J
    · refine have h := iteF hc h; ATodo.exit J<|have h := outL h hA1; tSR<|rM J J<|rA J J<|rN<|ATodo.ret<|?_
      obtain rfl := Option.some.inj h
      exact ImpX.here ⟨_,.cons (.tmp _ _ J) .nil,_,.cons .p0 (.cons .p0 .nil),⟨b9,J,J⟩⟩

theorem Stream_Fleet_c [GI : GTab] {b_0 : Bk} {p0x0 : Fleetmake_Stream} {p1x0 : Int} {r : (List DeviceS) × Fleetmake_Stream} (h : Stream_Fleet p0x0 p1x0 = some r) : ACall Tryz.prog 8 [.ptr b_0 0,I p1x0] [(b_0,.cells [lE0 p0x0.L,I p0x0.at_])] (T1 (fun d_0=>[(b_0,.cells [lE0 r.2.L,I r.2.at_]),(d_0,aE3 r.1)]) (fun d_0=>.sl 7 d_0 0 r.1.length)) := by
  unfold Stream_Fleet at h
  refine ACall.lessH ?_
  refine ACall.bodyN Tryz.func8 J Tryz.ntmps8 Tryz.results8 J J ?_
  refine tSR<|rA J J<|rN<|tSR<|rM J J<|rM J J<|bndE h fun v1 e1 h=>t_call1 J (Stream_RightFleet_c e1) (CoL.refl _) (.cons .p0 .nil) (fun _=>J) J fun b2=>rA J J<|rN<|tS<|tS<|ATodo.cut (fun σ'=>∃ (l3 : List Int) (n4 : Int) (c5 : Bool),Stream_Fleet_j1 v1 l3 n4 c5 = some r ∧ σ' = ⟨45,[(0,.ptr b_0 0),(5,.sl 7 b2 0 v1.1.length),(16,.bool c5)],[(b_0,.cells [lE0 l3,I n4]),(b2,aE3 v1.1)]⟩) ?_ ?_
  · refine tR<|rM J J<|ARun.qv (t_len_sl J) J<|ARun.qv (q_gtr J J) J<|rM J J<|ARun.guard_dt J J J (fun hc=>?_) (fun hc=>?_)
    · exact have h := iteT hc h; rM J J<|rY J J J<|bndE h fun v6 e2 h=>t_call0 J (Stream_Flip_c e2) (CoL.refl _) (.cons .p0 .nil) J J<|rT J J J<|rN<|ATodo.stop<|ImpX.lq [0,0] ⟨v6.2.L,v6.2.at_,v6.1,h,J⟩ J J
    · exact have h := iteF hc h; rG J J J J<|rE J J J<|rN<|ATodo.stop<|ImpX.lq [0,0] ⟨v1.2.L,v1.2.at_,false,h,J⟩ J J
  · rintro σ' ⟨l3, n4, c5, h, rfl⟩
    unfold Stream_Fleet_j1 at h
    refine ATodo.cut (fun σ'=>∃ (l7 : List Int) (n8 : Int) (l9 : List DeviceS),Stream_Fleet_j2 l7 n8 l9 = some r ∧ σ' = ⟨45,[(5,.sl 7 b2 0 l9.length)],[(b_0,.cells [lE0 l7,I n8]),(b2,aE3 l9)]⟩) ?_ ?_
    · refine ATodo.cond J (fun hc=>?_) (fun hc=>?_)
      · exact have h := iteT hc h; tSR<|rM J J<|rM J J<|rM J J<|ARun.qv (t_len_sl J) J<|bndE h fun v10 e3 h=>t_call0 J (Stream_Next_c e3) (CoL.refl _) (.cons .p0 .nil) J J<|bndE h fun v11 e4 h=>ARun.qv (t_index_sl J J J e4) J<|rA J J<|rN<|tR<|rM J J<|rM J J<|rM J J<|rM J J<|rM J J<|ARun.qv (q_nilCheck_aptr J) J<|ARun.qv (t_field_aptr J J) J<|ARun.qv (t_load_aptr (g := DeviceS.av) J J (.inl .p1) e4 J) J<|n_buildSliceL (xs := ([v11.Key,([] : Str),([100,49] : Str)]).map AV.str) J J J J J J<|bndE h fun v12 e5 h=>t_call0 J (Stream_Some_c e5) (CoL.refl _) (.cons .p0 .nil) J J<|rM J J<|n_buildSliceL (xs := ([([109] : Str),([] : Str)]).map AV.str) J J J J J J<|bndE h fun v13 e6 h=>t_call0 J (Stream_Some_c e6) (CoL.refl _) (.cons .p0 .nil) J J<|rM J J<|bndE h fun v14 e7 h=>t_call0 J (Stream_Version_c e7) (CoL.refl _) (.cons .p0 .nil) J J<|ARun.qv (q_nilCheck_aptr J) J<|ARun.qv (t_field_aptr J J) J<|t_store_aptr1 (g := DeviceS.av) (el' := (⟨v12.1,v11.Model,v11.Tenant,v11.Firmware,v11.Tags⟩ : DeviceS)) J J J J e4 J .p1 J<|ARun.ghost<|ImpX.eqs (s := 5) (av' := .sl 7 b2 0 (v1.1.set v10.1.toNat (⟨v12.1,v11.Model,v11.Tenant,v11.Firmware,v11.Tags⟩ : DeviceS)).length) J (by rw [List.length_set])<|ImpX.here<|ARun.ghost<|ImpX.eqs (s := 17) (av' := .sl 7 b2 0 (v1.1.set v10.1.toNat (⟨v12.1,v11.Model,v11.Tenant,v11.Firmware,v11.Tags⟩ : DeviceS)).length) J (by rw [List.length_set])<|ImpX.here<|ARun.ghost<|ImpX.eqs (s := 19) (av' := .sl 7 b2 0 (v1.1.set v10.1.toNat (⟨v12.1,v11.Model,v11.Tenant,v11.Firmware,v11.Tags⟩ : DeviceS)).length) J (by rw [List.length_set])<|ImpX.here<|ARun.qv (q_nilCheck_aptr J) J<|ARun.qv (t_field_aptr J J) J<|t_store_aptr1 (g := DeviceS.av) (el' := (⟨v12.1,v13.1,v11.Tenant,v11.Firmware,v11.Tags⟩ : DeviceS)) J J J J (idx_set_self (v := (⟨v12.1,v11.Model,v11.Tenant,v11.Firmware,v11.Tags⟩ : DeviceS)) e4) J .p1 J<|ARun.ghost<|ImpX.eqs (s := 5) (av' := .sl 7 b2 0 ((v1.1.set v10.1.toNat (⟨v12.1,v11.Model,v11.Tenant,v11.Firmware,v11.Tags⟩ : DeviceS)).set v10.1.toNat (⟨v12.1,v13.1,v11.Tenant,v11.Firmware,v11.Tags⟩ : DeviceS)).length) J (by rw [List.length_set])<|ImpX.here<|ARun.ghost<|ImpX.eqs (s := 17) (av' := .sl 7 b2 0 ((v1.1.set v10.1.toNat (⟨v12.1,v11.Model,v11.Tenant,v11.Firmware,v11.Tags⟩ : DeviceS)).set v10.1.toNat (⟨v12.1,v13.1,v11.Tenant,v11.Firmware,v11.Tags⟩ : DeviceS)).length) J (by rw [List.length_set])<|ImpX.here<|ARun.ghost<|ImpX.eqs (s := 19) (av' := .sl 7 b2 0 ((v1.1.set v10.1.toNat (⟨v12.1,v11.Model,v11.Tenant,v11.Firmware,v11.Tags⟩ : DeviceS)).set v10.1.toNat (⟨v12.1,v13.1,v11.Tenant,v11.Firmware,v11.Tags⟩ : DeviceS)).length) J (by rw [List.length_set])<|ImpX.here<|ARun.qv (q_nilCheck_aptr J) J<|ARun.qv (t_field_aptr J J) J<|t_store_aptr1 (g := DeviceS.av) (el' := (⟨v12.1,v13.1,v11.Tenant,v14.1,v11.Tags⟩ : DeviceS)) J J J J (idx_set_self (v := (⟨v12.1,v13.1,v11.Tenant,v11.Firmware,v11.Tags⟩ : DeviceS)) (idx_set_self (v := (⟨v12.1,v11.Model,v11.Tenant,v11.Firmware,v11.Tags⟩ : DeviceS)) e4)) J .p1 J<|ARun.ghost<|ImpX.eqs (s := 5) (av' := .sl 7 b2 0 (((v1.1.set v10.1.toNat (⟨v12.1,v11.Model,v11.Tenant,v11.Firmware,v11.Tags⟩ : DeviceS)).set v10.1.toNat (⟨v12.1,v13.1,v11.Tenant,v11.Firmware,v11.Tags⟩ : DeviceS)).set v10.1.toNat (⟨v12.1,v13.1,v11.Tenant,v14.1,v11.Tags⟩ : DeviceS)).length) J (by rw [List.length_set])<|ImpX.here<|ARun.ghost<|ImpX.eqs (s := 17) (av' := .sl 7 b2 0 (((v1.1.set v10.1.toNat (⟨v12.1,v11.Model,v11.Tenant,v11.Firmware,v11.Tags⟩ : DeviceS)).set v10.1.toNat (⟨v12.1,v13.1,v11.Tenant,v11.Firmware,v11.Tags⟩ : DeviceS)).set v10.1.toNat (⟨v12.1,v13.1,v11.Tenant,v14.1,v11.Tags⟩ : DeviceS)).length) J (by rw [List.length_set])<|ImpX.here<|ARun.ghost<|ImpX.eqs (s := 19) (av' := .sl 7 b2 0 (((v1.1.set v10.1.toNat (⟨v12.1,v11.Model,v11.Tenant,v11.Firmware,v11.Tags⟩ : DeviceS)).set v10.1.toNat (⟨v12.1,v13.1,v11.Tenant,v11.Firmware,v11.Tags⟩ : DeviceS)).set v10.1.toNat (⟨v12.1,v13.1,v11.Tenant,v14.1,v11.Tags⟩ : DeviceS)).length) J (by rw [List.length_set])<|ImpX.here<|rN<|ATodo.stop<|ImpX.lq [0,0] ⟨v14.2.L,v14.2.at_,((v1.1.set v10.1.toNat (⟨v12.1,v11.Model,v11.Tenant,v11.Firmware,v11.Tags⟩ : DeviceS)).set v10.1.toNat (⟨v12.1,v13.1,v11.Tenant,v11.Firmware,v11.Tags⟩ : DeviceS)).set v10.1.toNat (⟨v12.1,v13.1,v11.Tenant,v14.1,v11.Tags⟩ : DeviceS),h,J⟩ J J
      · exact have h := iteFb hc h; tK<|ATodo.stop<|ImpX.lq [0,0] ⟨l3,n4,v1.1,h,J⟩ J J
    · rintro σ' ⟨l7, n8, l9, h, rfl⟩
      unfold Stream_Fleet_j2 at h
      refine tSR<|rM J J<|rA J J<|rN<|ATodo.ret<|?_
      obtain rfl := Option.some.inj h
      exact ImpX.here ⟨_,.cons (.tmp _ _ J) .nil,_,.cons .p0 (.cons .p0 .nil),⟨b2,J,J⟩⟩

theorem Q_sign_c [GI : GTab] {p0x0 : Int} {r : Int} (h : Q_sign p0x0 = r) : Pu Tryz.prog 102 [I p0x0] (I r) := by
  unfold Q_sign at h
  refine ACall.bodyN Tryz.func102 J Tryz.ntmps102 Tryz.results102 J J ?_
  refine tSR<|rA J J<|rN<|tS<|ATodo.block<|tSR<|rM J J<|ARun.qv (q_lss J J) J<|rA J J<|rN<|ATodo.cond_d J (fun hc=>?_) (fun hc=>?_)
  · refine have h := iteT hc h; tSR<|rA J J<|rN<|ATodo.ret<|?_
    obtain rfl := h
    exact ImpX.here ⟨_,.cons (.tmp _ _ J) .nil,J⟩
  · refine have h := iteF hc h; tSR<|rM J J<|ARun.qv (q_gtr J J) J<|rA J J<|rN<|ATodo.cond_d J (fun hc=>?_) (fun hc=>?_)
    · refine have h := iteT hc h; tSR<|rA J J<|rN<|ATodo.ret<|?_
      obtain rfl := h
      exact ImpX.here ⟨_,.cons (.tmp _ _ J) .nil,J⟩
    · refine have h := iteF hc h; tK<|ATodo.blk<|tSR<|rA J J<|rN<|ATodo.ret<|?_
      obtain rfl := h
      exact ImpX.here ⟨_,.cons (.tmp _ _ J) .nil,J⟩

theorem Q_MarkOrder_c [GI : GTab] {p0x0 : MarkS} {p1x0 : MarkS} {r : Int} (h : Q_MarkOrder p0x0 p1x0 = r) : Pu Tryz.prog 48 [MarkS.av p0x0,MarkS.av p1x0] (I r) := by
  unfold Q_MarkOrder at h
  refine ACall.bodyN Tryz.func48 J Tryz.ntmps48 Tryz.results48 J J ?_
  refine tSR<|n_box J J J J fun b1=>n_box J J J J fun b2=>rA J J<|rN<|tS<|tSR<|rF J J J<|rL J J .p1 J J<|rF J J J<|rL J J .p0 J J<|ARun.qv (q_neq J J) J<|rN<|ATodo.cond_d J (fun hc=>?_) (fun hc=>?_)
  · refine have h := iteT hc h; tSR<|rF J J J<|rL J J .p1 J J<|rF J J J<|rL J J .p0 J J<|ARun.qv (q_subw J J) J<|r_callp J (Q_sign_c J) (CoL.refl _) J<|rA J J<|rN<|ATodo.ret<|?_
    obtain rfl := h
    exact ImpX.here ⟨_,.cons (.tmp _ _ J) .nil,J⟩
  · refine have h := iteF hc h; tK<|tSR<|rF J J J<|rL J J .p1 J J<|rF J J J<|rL J J .p0 J J<|r_callp J (strings_Compare_c J) (CoL.refl _) J<|rA J J<|rN<|ATodo.ret<|?_
    obtain rfl := h
    exact ImpX.here ⟨_,.cons (.tmp _ _ J) .nil,J⟩

theorem slices_insertionSortCmpFunc_Mark_c [GI : GTab] {b_0 : Bk} {p0x0 : List MarkS} {p1x0 : Int} {p2x0 : Int} {fnd : MarkS → MarkS → Option Int} {fnd_F : FuncId} [IsFn Tryz.prog fnd_F] {fnd_C : List AV} (fnd_h : ∀ {y0 y1 : _} {u : Int},fnd y0 y1 = some u → Pu Tryz.prog fnd_F (MarkS.av y0 :: MarkS.av y1 ::  fnd_C) (I u)) {r : (List MarkS)} (h : slices_insertionSortCmpFunc_Mark p0x0 p1x0 p2x0 fnd = some r) : ACall Tryz.prog 136 [.sl 6 b_0 0 p0x0.length,I p1x0,I p2x0,.func (.func fnd_F) fnd_C] [(b_0,aE4 p0x0)] (T0 ([(b_0,aE4 r)]) (.tup [])) := by
  unfold slices_insertionSortCmpFunc_Mark at h
  refine ACall.lessH ?_
  refine ACall.bodyN Tryz.func136 J Tryz.ntmps136 Tryz.results136 J J ?_
  refine tSR<|rM J J<|ARun.qv (q_addw J J) J<|rA J J<|rN<|ATodo.block<|ATodo.loopI (fun x : (List MarkS) × Int=>slices_insertionSortCmpFunc_Mark_b1 p1x0 p2x0 fnd x.1 x.2) (fun x σ'=>σ' = ⟨53,[(0,.sl 6 b_0 0 x.1.length),(1,I p1x0),(2,I p2x0),(3,.func (.func fnd_F) fnd_C),(8,I x.2)],[(b_0,aE4 x.1)]⟩) h ?_ ?_
  · exact ImpX.lq [0] J J J
  · intro x z1 σ' J1 hmk h hJ1 hA1
    obtain ⟨l3, n4⟩ := x
    obtain rfl := hmk
    replace h : slices_insertionSortCmpFunc_Mark_b1 p1x0 p2x0 fnd l3 n4 = some z1 := h
    unfold slices_insertionSortCmpFunc_Mark_b1 at h
    refine tS<|tSR<|rM J J<|rM J J<|ARun.qv (q_lss J J) J<|rN<|ATodo.cond_d J (fun hc=>?_) (fun hc=>?_)
    · refine have h := iteT hc h; tK<|tS<|ATodo.block<|tSR<|rM J J<|rA J J<|rN<|ATodo.block<|ATodo.loopI (fun x : (List MarkS) × Int=>slices_insertionSortCmpFunc_Mark_b2 p1x0 fnd n4 x.1 x.2) (fun x σ'=>σ' = ⟨53,[(0,.sl 6 b_0 0 x.1.length),(1,I p1x0),(2,I p2x0),(3,.func (.func fnd_F) fnd_C),(8,I n4),(9,I x.2)],[(b_0,aE4 x.1)]⟩) h ?_ ?_
      · exact ImpX.lq [0] J J J
      · intro x z2 σ' J2 hmk h hJ2 hA2
        obtain ⟨l7, n8⟩ := x
        obtain rfl := hmk
        replace h : slices_insertionSortCmpFunc_Mark_b2 p1x0 fnd n4 l7 n8 = some z2 := h
        unfold slices_insertionSortCmpFunc_Mark_b2 at h
        refine tS<|tS<|ATodo.cut (fun σ'=>∃ (c9 : Bool),slices_insertionSortCmpFunc_Mark_j1 n4 l7 n8 c9 = some z2 ∧ σ' = ⟨53,[(0,.sl 6 b_0 0 l7.length),(1,I p1x0),(2,I p2x0),(3,.func (.func fnd_F) fnd_C),(8,I n4),(9,I n8),(34,.bool c9)],[(b_0,aE4 l7)]⟩) ?_ ?_
        · refine ATodo.regionM (id := 4) (A := [0,0,3,7,15,15,15,111,239,15,15,1039,3599,7695,16383,32767,65535]) 17 mixed J (by kernel_rfl) (by kernel_rfl)<|AM.qv (q_move J) J<|AM.qv (q_move J) J<|AM.qv (q_gtr J J) J<|AM.qv (q_move J) J<|AM.guard_dt J J J (fun hc=>?_) (fun hc=>?_)
          · exact have h := iteT hc h; AM.qv (q_move J) J<|AM.guard_yes J J J<|AM.qv (q_move J) J<|AM.guard_yes J J J<|AM.qv (q_move J) J<|AM.guard_yes J J J<|bndE h fun v10 e1 h=>AM.qv (t_index_sl J J J e1) J<|AM.guard_yes J J J<|AM.qv (t_load_aptr_agg (g := MarkS.av) J J (.inl .p0) J e1 J) J<|AM.guard_yes J J J<|AM.qv (q_move J) J<|AM.guard_yes J J J<|AM.qv (q_move J) J<|AM.guard_yes J J J<|AM.qv (q_subw J J) J<|AM.guard_yes J J J<|bndE h fun v11 e2 h=>AM.qv (t_index_sl J J J e2) J<|AM.guard_yes J J J<|AM.qv (t_load_aptr_agg (g := MarkS.av) J J (.inl .p0) J e2 J) J<|AM.guard_yes J J J<|bndE h fun v12 e3 h=>AM.callvp J J (fnd_h e3) (CoL.refl _) J<|AM.guard_yes J J J<|AM.qv (q_lss J J) J<|AM.qv (q_pick_t J J) J<|AM.nil<|rN<|ATodo.stop<|ImpX.lq [0] ⟨decide (v12 < (0 : Int)),h,J⟩ J J
          · exact have h := iteF hc h; AM.guard_no J J J J<|AM.guard_no J J J J<|AM.guard_no J J J J<|AM.guard_no J J J J<|AM.guard_no J J J J<|AM.guard_no J J J J<|AM.guard_no J J J J<|AM.guard_no J J J J<|AM.guard_no J J J J<|AM.guard_no J J J J<|AM.guard_no J J J J<|AM.qv (q_pick_f J J) J<|AM.nil<|rN<|ATodo.stop<|ImpX.lq [0] ⟨false,h,J⟩ J J
        · rintro σ' ⟨c9, h, rfl⟩
          unfold slices_insertionSortCmpFunc_Mark_j1 at h
          refine ATodo.cond J (fun hc=>?_) (fun hc=>?_)
          · refine have h := iteT hc h; tK<|tS<|ATodo.block<|bndE h fun v13 e4 h=>bndE h fun v14 e5 h=>bndE h fun v15 e6 h=>ATodo.regionT (id := 6) (A := [0,0,0,0,8,0,0,64,224,480,0,0,3072,7168,16355,32739,65535,131071]) (H0 := [(b_0,aE4 l7)]) (HH := fun β=>[(b_0,aE4 (l7.set n8.toNat v13))]) 16 mixed J (by kernel_rfl) (by kernel_rfl) [⟨none,some 15,[9,13],fun _=>(b_0,aE4 l7),none,[]⟩,⟨some 15,none,[],fun _=>(b_0,aE4 (l7.set n8.toNat v13)),none,[]⟩] [] J (by kernel_rfl) J (.cons .p0 .nil) (fun _=>J)<|AT.am 9 J J<|AM.qv (q_move J) J<|AM.qv (q_move J) J<|AM.qv (q_move J) J<|AM.qv (q_move J) J<|AM.qv (q_subw J J) J<|AM.qv (q_move J) J<|AM.qv (q_move J) J<|AM.qv (q_subw J J) J<|AM.qv (t_index_sl J J J e4) J<|AM.nil<|AT.rd (Rs := [(b_0,aE4 l7)]) (fun _=>J) J (fun _=>J) (fun _=>J) (t_load_aptr_agg (g := MarkS.av) J J (.inl .p0) J e4 J) J<|AT.am 3 J J<|AM.qv (q_move J) J<|AM.qv (q_move J) J<|AM.qv (t_index_sl J J J e5) J<|AM.nil<|AT.rd (Rs := [(b_0,aE4 l7)]) (fun _=>J) J (fun _=>J) (fun _=>J) (t_load_aptr_agg (g := MarkS.av) J J (.inl .p0) J e5 J) J<|AT.am 1 J J<|AM.qv (t_index_sl J J J e6) J<|AM.nil<|AT.run0 (Ti := [(b_0,aE4 l7)]) (Pi := [(b_0,aE4 (l7.set n8.toNat v13))]) (fun _=>J) (fun _=>J) (fun _=>J) J J ?_ ?_
            · exact t_store_aptr1 (g := MarkS.av) (el' := v13) J J J J e6 J .p0 J<|ARun.nil ⟨_,J⟩
            refine AT.nilN (fun _=>J) fun β=>ARun.ghost<|ImpX.eqs (s := 0) (av' := .sl 6 b_0 0 (l7.set n8.toNat v13).length) J (by simp)<|ImpX.here<|ARun.ghost<|ImpX.eqs (s := 37) (av' := .sl 6 b_0 0 (l7.set n8.toNat v13).length) J (by simp)<|ImpX.here<|ARun.ghost<|ImpX.eqs (s := 39) (av' := .sl 6 b_0 0 (l7.set n8.toNat v13).length) J (by simp)<|ImpX.here<|ARun.ghost<|ImpX.eqs (s := 42) (av' := .sl 6 b_0 0 (l7.set n8.toNat v13).length) J (by simp)<|ImpX.here<|ARun.ghost<|ImpX.eqs (s := 47) (av' := .sl 6 b_0 0 (l7.set n8.toNat v13).length) J (by simp)<|ImpX.here<|bndE h fun v16 e7 h=>ARun.qv (t_index_sl J J J e7) J<|t_store_aptr1 (g := MarkS.av) (el' := v14) J J J J e7 J .p0 J<|ARun.ghost<|ImpX.eqs (s := 0) (av' := .sl 6 b_0 0 ((l7.set n8.toNat v13).set (w64 (n8 - (1 : Int))).toNat v14).length) J (by rw [List.length_set])<|ImpX.here<|ARun.ghost<|ImpX.eqs (s := 37) (av' := .sl 6 b_0 0 ((l7.set n8.toNat v13).set (w64 (n8 - (1 : Int))).toNat v14).length) J (by rw [List.length_set])<|ImpX.here<|ARun.ghost<|ImpX.eqs (s := 39) (av' := .sl 6 b_0 0 ((l7.set n8.toNat v13).set (w64 (n8 - (1 : Int))).toNat v14).length) J (by rw [List.length_set])<|ImpX.here<|ARun.ghost<|ImpX.eqs (s := 42) (av' := .sl 6 b_0 0 ((l7.set n8.toNat v13).set (w64 (n8 - (1 : Int))).toNat v14).length) J (by rw [List.length_set])<|ImpX.here<|ARun.ghost<|ImpX.eqs (s := 47) (av' := .sl 6 b_0 0 ((l7.set n8.toNat v13).set (w64 (n8 - (1 : Int))).toNat v14).length) J (by rw [List.length_set])<|ImpX.here<|rN<|ATodo.blk<|tR<|rM J J<|ARun.qv (q_subw J J) J<|rA J J<|rN<|ATodo.stop<|?_
            obtain rfl := Option.some.inj h
            exact hJ2 _ _ J<|ImpX.lq [0] J J J
          · refine have h := iteFb hc h; ATodo.exit J<|have h := outL h hA2; ATodo.blk<|tR<|rM J J<|ARun.qv (q_addw J J) J<|rA J J<|rN<|ATodo.stop<|?_
            obtain rfl := Option.some.inj h
            exact hJ1 _ _ J<|ImpX.lq [0] J J J
    · refine have h := iteF hc h; ATodo.exit J<|have h := outL h hA1; ATodo.nil<|?_
      obtain rfl := Option.some.inj h
      exact ImpX.here ⟨_,.nil,_,.cons .p0 .nil,⟨J,J⟩⟩

theorem slices_swapRangeCmpFunc_Mark_c [GI : GTab] {b_0 : Bk} {p0x0 : List MarkS} {p1x0 : Int} {p2x0 : Int} {p3x0 : Int} {fne : MarkS → MarkS → Option Int} {fne_F : FuncId} [IsFn Tryz.prog fne_F] {fne_C : List AV} (fne_h : ∀ {y0 y1 : _} {u : Int},fne y0 y1 = some u → Pu Tryz.prog fne_F (MarkS.av y0 :: MarkS.av y1 ::  fne_C) (I u)) {r : (List MarkS)} (h : slices_swapRangeCmpFunc_Mark p0x0 p1x0 p2x0 p3x0 fne = some r) : ACall Tryz.prog 204 [.sl 6 b_0 0 p0x0.length,I p1x0,I p2x0,I p3x0,.func (.func fne_F) fne_C] [(b_0,aE4 p0x0)] (T0 ([(b_0,aE4 r)]) (.tup [])) := by
  unfold slices_swapRangeCmpFunc_Mark at h
  refine ACall.lessH ?_
  refine ACall.bodyN Tryz.func204 J Tryz.ntmps204 Tryz.results204 J J ?_
  refine tSR<|rA J J<|rN<|ATodo.block<|ATodo.loopI (fun x : (List MarkS) × Int=>slices_swapRangeCmpFunc_Mark_b1 p1x0 p2x0 p3x0 x.1 x.2) (fun x σ'=>σ' = ⟨38,[(0,.sl 6 b_0 0 x.1.length),(1,I p1x0),(2,I p2x0),(3,I p3x0),(10,I x.2)],[(b_0,aE4 x.1)]⟩) h ?_ ?_
  · exact ImpX.lq [0] J J J
  · intro x z1 σ' J1 hmk h hJ1 hA1
    obtain ⟨l3, n4⟩ := x
    obtain rfl := hmk
    replace h : slices_swapRangeCmpFunc_Mark_b1 p1x0 p2x0 p3x0 l3 n4 = some z1 := h
    unfold slices_swapRangeCmpFunc_Mark_b1 at h
    refine tS<|tSR<|rM J J<|rM J J<|ARun.qv (q_lss J J) J<|rN<|ATodo.cond_d J (fun hc=>?_) (fun hc=>?_)
    · refine have h := iteT hc h; tK<|tS<|ATodo.block<|bndE h fun v5 e1 h=>bndE h fun v6 e2 h=>bndE h fun v7 e3 h=>ATodo.regionT (id := 3) (A := [0,0,0,6,0,0,0,96,0,0,0,1536,3840,7936,0,0,0,98304,245760,507904,1048335,2096911,4194303,8388607]) (H0 := [(b_0,aE4 l3)]) (HH := fun β=>[(b_0,aE4 (l3.set (w64 (p1x0 + n4)).toNat v5))]) 22 mixed J (by kernel_rfl) (by kernel_rfl) [⟨none,some 21,[13,19],fun _=>(b_0,aE4 l3),none,[]⟩,⟨some 21,none,[],fun _=>(b_0,aE4 (l3.set (w64 (p1x0 + n4)).toNat v5)),none,[]⟩] [] J (by kernel_rfl) J (.cons .p0 .nil) (fun _=>J)<|AT.am 13 J J<|AM.qv (q_move J) J<|AM.qv (q_move J) J<|AM.qv (q_move J) J<|AM.qv (q_addw J J) J<|AM.qv (q_move J) J<|AM.qv (q_move J) J<|AM.qv (q_move J) J<|AM.qv (q_addw J J) J<|AM.qv (q_move J) J<|AM.qv (q_move J) J<|AM.qv (q_move J) J<|AM.qv (q_addw J J) J<|AM.qv (t_index_sl J J J e1) J<|AM.nil<|AT.rd (Rs := [(b_0,aE4 l3)]) (fun _=>J) J (fun _=>J) (fun _=>J) (t_load_aptr_agg (g := MarkS.av) J J (.inl .p0) J e1 J) J<|AT.am 5 J J<|AM.qv (q_move J) J<|AM.qv (q_move J) J<|AM.qv (q_move J) J<|AM.qv (q_addw J J) J<|AM.qv (t_index_sl J J J e2) J<|AM.nil<|AT.rd (Rs := [(b_0,aE4 l3)]) (fun _=>J) J (fun _=>J) (fun _=>J) (t_load_aptr_agg (g := MarkS.av) J J (.inl .p0) J e2 J) J<|AT.am 1 J J<|AM.qv (t_index_sl J J J e3) J<|AM.nil<|AT.run0 (Ti := [(b_0,aE4 l3)]) (Pi := [(b_0,aE4 (l3.set (w64 (p1x0 + n4)).toNat v5))]) (fun _=>J) (fun _=>J) (fun _=>J) J J ?_ ?_
      · exact t_store_aptr1 (g := MarkS.av) (el' := v5) J J J J e3 J .p0 J<|ARun.nil ⟨_,J⟩
      refine AT.nilN (fun _=>J) fun β=>ARun.ghost<|ImpX.eqs (s := 0) (av' := .sl 6 b_0 0 (l3.set (w64 (p1x0 + n4)).toNat v5).length) J (by simp)<|ImpX.here<|ARun.ghost<|ImpX.eqs (s := 16) (av' := .sl 6 b_0 0 (l3.set (w64 (p1x0 + n4)).toNat v5).length) J (by simp)<|ImpX.here<|ARun.ghost<|ImpX.eqs (s := 20) (av' := .sl 6 b_0 0 (l3.set (w64 (p1x0 + n4)).toNat v5).length) J (by simp)<|ImpX.here<|ARun.ghost<|ImpX.eqs (s := 24) (av' := .sl 6 b_0 0 (l3.set (w64 (p1x0 + n4)).toNat v5).length) J (by simp)<|ImpX.here<|ARun.ghost<|ImpX.eqs (s := 30) (av' := .sl 6 b_0 0 (l3.set (w64 (p1x0 + n4)).toNat v5).length) J (by simp)<|ImpX.here<|bndE h fun v8 e4 h=>ARun.qv (t_index_sl J J J e4) J<|t_store_aptr1 (g := MarkS.av) (el' := v6) J J J J e4 J .p0 J<|ARun.ghost<|ImpX.eqs (s := 0) (av' := .sl 6 b_0 0 ((l3.set (w64 (p1x0 + n4)).toNat v5).set (w64 (p2x0 + n4)).toNat v6).length) J (by rw [List.length_set])<|ImpX.here<|ARun.ghost<|ImpX.eqs (s := 16) (av' := .sl 6 b_0 0 ((l3.set (w64 (p1x0 + n4)).toNat v5).set (w64 (p2x0 + n4)).toNat v6).length) J (by rw [List.length_set])<|ImpX.here<|ARun.ghost<|ImpX.eqs (s := 20) (av' := .sl 6 b_0 0 ((l3.set (w64 (p1x0 + n4)).toNat v5).set (w64 (p2x0 + n4)).toNat v6).length) J (by rw [List.length_set])<|ImpX.here<|ARun.ghost<|ImpX.eqs (s := 24) (av' := .sl 6 b_0 0 ((l3.set (w64 (p1x0 + n4)).toNat v5).set (w64 (p2x0 + n4)).toNat v6).length) J (by rw [List.length_set])<|ImpX.here<|ARun.ghost<|ImpX.eqs (s := 30) (av' := .sl 6 b_0 0 ((l3.set (w64 (p1x0 + n4)).toNat v5).set (w64 (p2x0 + n4)).toNat v6).length) J (by rw [List.length_set])<|ImpX.here<|rN<|ATodo.blk<|tR<|rM J J<|ARun.qv (q_addw J J) J<|rA J J<|rN<|ATodo.stop<|?_
      obtain rfl := Option.some.inj h
      exact hJ1 _ _ J<|ImpX.lq [0] J J J
    · refine have h := iteF hc h; ATodo.exit J<|have h := outL h hA1; ATodo.nil<|?_
      obtain rfl := Option.some.inj h
      exact ImpX.here ⟨_,.nil,_,.cons .p0 .nil,⟨J,J⟩⟩

theorem slices_rotateCmpFunc_Mark_c [GI : GTab] {b_0 : Bk} {p0x0 : List MarkS} {p1x0 : Int} {p2x0 : Int} {p3x0 : Int} {fne : MarkS → MarkS → Option Int} {fne_F : FuncId} [IsFn Tryz.prog fne_F] {fne_C : List AV} (fne_h : ∀ {y0 y1 : _} {u : Int},fne y0 y1 = some u → Pu Tryz.prog fne_F (MarkS.av y0 :: MarkS.av y1 ::  fne_C) (I u)) {r : (List MarkS)} (h : slices_rotateCmpFunc_Mark p0x0 p1x0 p2x0 p3x0 fne = some r) : ACall Tryz.prog 176 [.sl 6 b_0 0 p0x0.length,I p1x0,I p2x0,I p3x0,.func (.func fne_F) fne_C] [(b_0,aE4 p0x0)] (T0 ([(b_0,aE4 r)]) (.tup [])) := by
  unfold slices_rotateCmpFunc_Mark at h
  refine ACall.lessH ?_
  refine ACall.bodyN Tryz.func176 J Tryz.ntmps176 Tryz.results176 J J ?_
  refine tSR<|rM J J<|rM J J<|ARun.qv (q_subw J J) J<|rA J J<|rN<|tSR<|rM J J<|rM J J<|ARun.qv (q_subw J J) J<|rA J J<|rN<|tS<|ATodo.block<|ATodo.loopI (fun x : (List MarkS) × Int × Int=>slices_rotateCmpFunc_Mark_b1 p2x0 fne x.1 x.2.1 x.2.2) (fun x σ'=>σ' = ⟨58,[(0,.sl 6 b_0 0 x.1.length),(2,I p2x0),(4,.func (.func fne_F) fne_C),(10,I x.2.1),(11,I x.2.2)],[(b_0,aE4 x.1)]⟩) h ?_ ?_
  · exact ImpX.lq [0] J J J
  · intro x z1 σ' J1 hmk h hJ1 hA1
    obtain ⟨l4, n5, n6⟩ := x
    obtain rfl := hmk
    replace h : slices_rotateCmpFunc_Mark_b1 p2x0 fne l4 n5 n6 = some z1 := h
    unfold slices_rotateCmpFunc_Mark_b1 at h
    refine tS<|tSR<|rM J J<|rM J J<|ARun.qv (q_neq J J) J<|rN<|ATodo.cond_d J (fun hc=>?_) (fun hc=>?_)
    · refine have h := iteT hc h; tK<|ATodo.block<|tSR<|rM J J<|rM J J<|ARun.qv (q_gtr J J) J<|rN<|ATodo.cut (fun σ'=>∃ (l7 : List MarkS) (n8 : Int) (n9 : Int),slices_rotateCmpFunc_Mark_j1 l7 n8 n9 = some z1 ∧ σ' = ⟨58,[(0,.sl 6 b_0 0 l7.length),(2,I p2x0),(4,.func (.func fne_F) fne_C),(10,I n8),(11,I n9)],[(b_0,aE4 l7)]⟩) ?_ ?_
      · refine ATodo.cond_d J (fun hc=>?_) (fun hc=>?_)
        · exact have h := iteT hc h; tSR<|rM J J<|rM J J<|rM J J<|ARun.qv (q_subw J J) J<|rM J J<|rM J J<|rM J J<|bndE h fun v10 e1 h=>t_call0 J (slices_swapRangeCmpFunc_Mark_c fne_h (lenOk_f e1)) (CoL.refl _) (.cons .p0 .nil) J J<|ARun.ghost<|ImpX.eqs (s := 0) (av' := .sl 6 b_0 0 v10.length) J (congrArg (AV.sl 6 b_0 0) (lenOk_l e1))<|ImpX.here<|ARun.ghost<|ImpX.eqs (s := 24) (av' := .sl 6 b_0 0 v10.length) J (congrArg (AV.sl 6 b_0 0) (lenOk_l e1))<|ImpX.here<|rN<|tR<|rM J J<|rM J J<|ARun.qv (q_subw J J) J<|rA J J<|rN<|ATodo.stop<|ImpX.lq [0] ⟨v10,w64 (n5 - n6),n6,h,J⟩ J J
        · exact have h := iteF hc h; tSR<|rM J J<|rM J J<|rM J J<|ARun.qv (q_subw J J) J<|rM J J<|rM J J<|ARun.qv (q_addw J J) J<|rM J J<|ARun.qv (q_subw J J) J<|rM J J<|rM J J<|bndE h fun v11 e2 h=>t_call0 J (slices_swapRangeCmpFunc_Mark_c fne_h (lenOk_f e2)) (CoL.refl _) (.cons .p0 .nil) J J<|ARun.ghost<|ImpX.eqs (s := 0) (av' := .sl 6 b_0 0 v11.length) J (congrArg (AV.sl 6 b_0 0) (lenOk_l e2))<|ImpX.here<|ARun.ghost<|ImpX.eqs (s := 35) (av' := .sl 6 b_0 0 v11.length) J (congrArg (AV.sl 6 b_0 0) (lenOk_l e2))<|ImpX.here<|rN<|tR<|rM J J<|rM J J<|ARun.qv (q_subw J J) J<|rA J J<|rN<|ATodo.stop<|ImpX.lq [0] ⟨v11,n5,w64 (n6 - n5),h,J⟩ J J
      · rintro σ' ⟨l7, n8, n9, h, rfl⟩
        unfold slices_rotateCmpFunc_Mark_j1 at h
        refine ATodo.blk<|ATodo.stop<|?_
        obtain rfl := Option.some.inj h
        exact hJ1 _ _ J<|ImpX.lq [0] J J J
    · refine have h := iteF hc h; ATodo.exit J<|have h := outL h hA1; ?_
      unfold slices_rotateCmpFunc_Mark_k2 at h
      refine tR<|rM J J<|rM J J<|rM J J<|ARun.qv (q_subw J J) J<|rM J J<|rM J J<|rM J J<|bndE h fun v12 e3 h=>t_call0 J (slices_swapRangeCmpFunc_Mark_c fne_h (lenOk_f e3)) (CoL.refl _) (.cons .p0 .nil) J J<|ARun.ghost<|ImpX.eqs (s := 0) (av' := .sl 6 b_0 0 v12.length) J (congrArg (AV.sl 6 b_0 0) (lenOk_l e3))<|ImpX.here<|ARun.ghost<|ImpX.eqs (s := 50) (av' := .sl 6 b_0 0 v12.length) J (congrArg (AV.sl 6 b_0 0) (lenOk_l e3))<|ImpX.here<|rN<|ATodo.nil<|?_
      obtain rfl := Option.some.inj h
      exact ImpX.here ⟨_,.nil,_,.cons .p0 .nil,⟨J,J⟩⟩

theorem slices_symMergeCmpFunc_Mark_bd_c [GI : GTab] {b_0 : Bk} {self : (List MarkS) → Int → Int → Int → (MarkS → MarkS → Option Int) → Option (List MarkS)} (self_h : ∀ {b_0 : Bk} {p0x0 : List MarkS} {p1x0 : Int} {p2x0 : Int} {p3x0 : Int} {fne : MarkS → MarkS → Option Int} {fne_F : FuncId} [IsFn Tryz.prog fne_F] {fne_C : List AV} (fne_h : ∀ {y0 y1 : _} {u : Int},fne y0 y1 = some u → Pu Tryz.prog fne_F (MarkS.av y0 :: MarkS.av y1 ::  fne_C) (I u)) {r : (List MarkS)},self p0x0 p1x0 p2x0 p3x0 fne = some r → ACall Tryz.prog 137 [.sl 6 b_0 0 p0x0.length,I p1x0,I p2x0,I p3x0,.func (.func fne_F) fne_C] [(b_0,aE4 p0x0)] (T0 ([(b_0,aE4 r)]) (.tup []))) {p0x0 : List MarkS} {p1x0 : Int} {p2x0 : Int} {p3x0 : Int} {fne : MarkS → MarkS → Option Int} {fne_F : FuncId} [IsFn Tryz.prog fne_F] {fne_C : List AV} (fne_h : ∀ {y0 y1 : _} {u : Int},fne y0 y1 = some u → Pu Tryz.prog fne_F (MarkS.av y0 :: MarkS.av y1 ::  fne_C) (I u)) {r : (List MarkS)} (h : slices_symMergeCmpFunc_Mark_bd self p0x0 p1x0 p2x0 p3x0 fne = some r) : ACall Tryz.prog 137 [.sl 6 b_0 0 p0x0.length,I p1x0,I p2x0,I p3x0,.func (.func fne_F) fne_C] [(b_0,aE4 p0x0)] (T0 ([(b_0,aE4 r)]) (.tup [])) := by
  unfold slices_symMergeCmpFunc_Mark_bd at h
  refine ACall.lessH ?_
  refine ACall.bodyN Tryz.func137 J Tryz.ntmps137 Tryz.results137 J J ?_
  refine tS<|tSR<|rM J J<|rM J J<|ARun.qv (q_subw J J) J<|ARun.qv (q_eql J J) J<|rN<|ATodo.cond_d J (fun hc=>?_) (fun hc=>?_)
  · refine have h := iteT hc h; tSR<|rM J J<|rA J J<|rN<|tSR<|rM J J<|rA J J<|rN<|tS<|ATodo.block<|ATodo.loopI (fun x : Int × Int=>slices_symMergeCmpFunc_Mark_b1 p0x0 p1x0 fne x.1 x.2) (fun x σ'=>σ' = ⟨220,[(0,.sl 6 b_0 0 p0x0.length),(1,I p1x0),(4,.func (.func fne_F) fne_C),(10,I x.1),(11,I x.2)],[(b_0,aE4 p0x0)]⟩) h ?_ ?_
    · exact ImpX.lq [0] J J J
    · intro x z1 σ' J1 hmk h hJ1 hA1
      obtain ⟨n3, n4⟩ := x
      obtain rfl := hmk
      replace h : slices_symMergeCmpFunc_Mark_b1 p0x0 p1x0 fne n3 n4 = some z1 := h
      unfold slices_symMergeCmpFunc_Mark_b1 at h
      refine tS<|tSR<|rM J J<|rM J J<|ARun.qv (q_lss J J) J<|rN<|ATodo.cond_d J (fun hc=>?_) (fun hc=>?_)
      · refine have h := iteT hc h; tK<|ATodo.block<|tSR<|rM J J<|rM J J<|ARun.qv (q_addw J J) J<|ARun.qv (q_conv_int J) J<|ARun.qv (t_shr J J (by decide)) J<|ARun.qv (q_conv_int J) J<|rA J J<|rN<|tS<|ATodo.regionM (id := 5) (A := [0,0,0,6,14,0,0,96,224,511,1023]) 11 mixed J (by kernel_rfl) (by kernel_rfl)<|AM.qv (q_move J) J<|AM.qv (q_move J) J<|AM.qv (q_move J) J<|bndE h fun v5 e1 h=>AM.qv (t_index_sl J J J e1) J<|AM.qv (t_load_aptr_agg (g := MarkS.av) J J (.inl .p0) J e1 J) J<|AM.qv (q_move J) J<|AM.qv (q_move J) J<|bndE h fun v6 e2 h=>AM.qv (t_index_sl J J J e2) J<|AM.qv (t_load_aptr_agg (g := MarkS.av) J J (.inl .p0) J e2 J) J<|bndE h fun v7 e3 h=>AM.callvp J J (fne_h e3) (CoL.refl _) J<|AM.qv (q_lss J J) J<|AM.nil<|rN<|ATodo.cut (fun σ'=>∃ (n8 : Int) (n9 : Int),slices_symMergeCmpFunc_Mark_j1 n8 n9 = some z1 ∧ σ' = ⟨220,[(0,.sl 6 b_0 0 p0x0.length),(1,I p1x0),(4,.func (.func fne_F) fne_C),(10,I n8),(11,I n9)],[(b_0,aE4 p0x0)]⟩) ?_ ?_
        · refine ATodo.cond_d J (fun hc=>?_) (fun hc=>?_)
          · exact have h := iteT hc h; tR<|rM J J<|ARun.qv (q_addw J J) J<|rA J J<|rN<|ATodo.stop<|ImpX.lq [0] ⟨w64 ((w64 (shrI .u64 (IntKind.u64.wrap (w64 (n3 + n4))) (1 : Int))) + (1 : Int)),n4,h,J⟩ J J
          · exact have h := iteF hc h; tR<|rM J J<|rA J J<|rN<|ATodo.stop<|ImpX.lq [0] ⟨n3,w64 (shrI .u64 (IntKind.u64.wrap (w64 (n3 + n4))) (1 : Int)),h,J⟩ J J
        · rintro σ' ⟨n8, n9, h, rfl⟩
          unfold slices_symMergeCmpFunc_Mark_j1 at h
          refine ATodo.blk<|ATodo.stop<|?_
          obtain rfl := Option.some.inj h
          exact hJ1 _ _ J<|ImpX.lq [0] J J J
      · refine have h := iteF hc h; ATodo.exit J<|have h := outL h hA1; tS<|tSR<|rM J J<|rA J J<|rN<|ATodo.block<|ATodo.loopI (fun x : (List MarkS) × Int=>slices_symMergeCmpFunc_Mark_b2 n3 x.1 x.2) (fun x σ'=>σ' = ⟨220,[(0,.sl 6 b_0 0 x.1.length),(10,I n3),(13,I x.2)],[(b_0,aE4 x.1)]⟩) h ?_ ?_
        · exact ImpX.lq [0] J J J
        · intro x z2 σ' J2 hmk h hJ2 hA2
          obtain ⟨l12, n13⟩ := x
          obtain rfl := hmk
          replace h : slices_symMergeCmpFunc_Mark_b2 n3 l12 n13 = some z2 := h
          unfold slices_symMergeCmpFunc_Mark_b2 at h
          refine tS<|tSR<|rM J J<|rM J J<|ARun.qv (q_subw J J) J<|ARun.qv (q_lss J J) J<|rN<|ATodo.cond_d J (fun hc=>?_) (fun hc=>?_)
          · refine have h := iteT hc h; tK<|tS<|ATodo.block<|bndE h fun v14 e4 h=>bndE h fun v15 e5 h=>bndE h fun v16 e6 h=>ATodo.regionT (id := 11) (A := [0,0,0,0,8,0,0,64,224,480,0,0,3072,7168,16355,32739,65535,131071]) (H0 := [(b_0,aE4 l12)]) (HH := fun β=>[(b_0,aE4 (l12.set n13.toNat v14))]) 16 mixed J (by kernel_rfl) (by kernel_rfl) [⟨none,some 15,[9,13],fun _=>(b_0,aE4 l12),none,[]⟩,⟨some 15,none,[],fun _=>(b_0,aE4 (l12.set n13.toNat v14)),none,[]⟩] [] J (by kernel_rfl) J (.cons .p0 .nil) (fun _=>J)<|AT.am 9 J J<|AM.qv (q_move J) J<|AM.qv (q_move J) J<|AM.qv (q_move J) J<|AM.qv (q_move J) J<|AM.qv (q_addw J J) J<|AM.qv (q_move J) J<|AM.qv (q_move J) J<|AM.qv (q_addw J J) J<|AM.qv (t_index_sl J J J e4) J<|AM.nil<|AT.rd (Rs := [(b_0,aE4 l12)]) (fun _=>J) J (fun _=>J) (fun _=>J) (t_load_aptr_agg (g := MarkS.av) J J (.inl .p0) J e4 J) J<|AT.am 3 J J<|AM.qv (q_move J) J<|AM.qv (q_move J) J<|AM.qv (t_index_sl J J J e5) J<|AM.nil<|AT.rd (Rs := [(b_0,aE4 l12)]) (fun _=>J) J (fun _=>J) (fun _=>J) (t_load_aptr_agg (g := MarkS.av) J J (.inl .p0) J e5 J) J<|AT.am 1 J J<|AM.qv (t_index_sl J J J e6) J<|AM.nil<|AT.run0 (Ti := [(b_0,aE4 l12)]) (Pi := [(b_0,aE4 (l12.set n13.toNat v14))]) (fun _=>J) (fun _=>J) (fun _=>J) J J ?_ ?_
            · exact t_store_aptr1 (g := MarkS.av) (el' := v14) J J J J e6 J .p0 J<|ARun.nil ⟨_,J⟩
            refine AT.nilN (fun _=>J) fun β=>ARun.ghost<|ImpX.eqs (s := 0) (av' := .sl 6 b_0 0 (l12.set n13.toNat v14).length) J (by simp)<|ImpX.here<|ARun.ghost<|ImpX.eqs (s := 61) (av' := .sl 6 b_0 0 (l12.set n13.toNat v14).length) J (by simp)<|ImpX.here<|ARun.ghost<|ImpX.eqs (s := 63) (av' := .sl 6 b_0 0 (l12.set n13.toNat v14).length) J (by simp)<|ImpX.here<|ARun.ghost<|ImpX.eqs (s := 66) (av' := .sl 6 b_0 0 (l12.set n13.toNat v14).length) J (by simp)<|ImpX.here<|ARun.ghost<|ImpX.eqs (s := 71) (av' := .sl 6 b_0 0 (l12.set n13.toNat v14).length) J (by simp)<|ImpX.here<|bndE h fun v17 e7 h=>ARun.qv (t_index_sl J J J e7) J<|t_store_aptr1 (g := MarkS.av) (el' := v15) J J J J e7 J .p0 J<|ARun.ghost<|ImpX.eqs (s := 0) (av' := .sl 6 b_0 0 ((l12.set n13.toNat v14).set (w64 (n13 + (1 : Int))).toNat v15).length) J (by rw [List.length_set])<|ImpX.here<|ARun.ghost<|ImpX.eqs (s := 61) (av' := .sl 6 b_0 0 ((l12.set n13.toNat v14).set (w64 (n13 + (1 : Int))).toNat v15).length) J (by rw [List.length_set])<|ImpX.here<|ARun.ghost<|ImpX.eqs (s := 63) (av' := .sl 6 b_0 0 ((l12.set n13.toNat v14).set (w64 (n13 + (1 : Int))).toNat v15).length) J (by rw [List.length_set])<|ImpX.here<|ARun.ghost<|ImpX.eqs (s := 66) (av' := .sl 6 b_0 0 ((l12.set n13.toNat v14).set (w64 (n13 + (1 : Int))).toNat v15).length) J (by rw [List.length_set])<|ImpX.here<|ARun.ghost<|ImpX.eqs (s := 71) (av' := .sl 6 b_0 0 ((l12.set n13.toNat v14).set (w64 (n13 + (1 : Int))).toNat v15).length) J (by rw [List.length_set])<|ImpX.here<|rN<|ATodo.blk<|tR<|rM J J<|ARun.qv (q_addw J J) J<|rA J J<|rN<|ATodo.stop<|?_
            obtain rfl := Option.some.inj h
            exact hJ2 _ _ J<|ImpX.lq [0] J J J
          · refine have h := iteF hc h; ATodo.exit J<|have h := outL h hA2; ATodo.ret<|?_
            obtain rfl := Option.some.inj h
            exact ImpX.here ⟨_,.nil,_,.cons .p0 .nil,⟨J,J⟩⟩
  · refine have h := iteF hc h; tK<|tS<|tSR<|rM J J<|rM J J<|ARun.qv (q_subw J J) J<|ARun.qv (q_eql J J) J<|rN<|ATodo.cond_d J (fun hc=>?_) (fun hc=>?_)
    · refine have h := iteT hc h; tSR<|rM J J<|rA J J<|rN<|tSR<|rM J J<|rA J J<|rN<|tS<|ATodo.block<|ATodo.loopI (fun x : Int × Int=>slices_symMergeCmpFunc_Mark_b3 p0x0 p2x0 fne x.1 x.2) (fun x σ'=>σ' = ⟨220,[(0,.sl 6 b_0 0 p0x0.length),(2,I p2x0),(4,.func (.func fne_F) fne_C),(14,I x.1),(15,I x.2)],[(b_0,aE4 p0x0)]⟩) h ?_ ?_
      · exact ImpX.lq [0] J J J
      · intro x z3 σ' J3 hmk h hJ3 hA3
        obtain ⟨n20, n21⟩ := x
        obtain rfl := hmk
        replace h : slices_symMergeCmpFunc_Mark_b3 p0x0 p2x0 fne n20 n21 = some z3 := h
        unfold slices_symMergeCmpFunc_Mark_b3 at h
        refine tS<|tSR<|rM J J<|rM J J<|ARun.qv (q_lss J J) J<|rN<|ATodo.cond_d J (fun hc=>?_) (fun hc=>?_)
        · refine have h := iteT hc h; tK<|ATodo.block<|tSR<|rM J J<|rM J J<|ARun.qv (q_addw J J) J<|ARun.qv (q_conv_int J) J<|ARun.qv (t_shr J J (by decide)) J<|ARun.qv (q_conv_int J) J<|rA J J<|rN<|tS<|ATodo.regionM (id := 17) (A := [0,0,0,6,14,0,0,96,224,511,1023,2047]) 12 mixed J (by kernel_rfl) (by kernel_rfl)<|AM.qv (q_move J) J<|AM.qv (q_move J) J<|AM.qv (q_move J) J<|bndE h fun v22 e8 h=>AM.qv (t_index_sl J J J e8) J<|AM.qv (t_load_aptr_agg (g := MarkS.av) J J (.inl .p0) J e8 J) J<|AM.qv (q_move J) J<|AM.qv (q_move J) J<|bndE h fun v23 e9 h=>AM.qv (t_index_sl J J J e9) J<|AM.qv (t_load_aptr_agg (g := MarkS.av) J J (.inl .p0) J e9 J) J<|bndE h fun v24 e10 h=>AM.callvp J J (fne_h e10) (CoL.refl _) J<|AM.qv (q_lss J J) J<|AM.qv (q_not_d J) J<|AM.nil<|rN<|ATodo.cut (fun σ'=>∃ (n25 : Int) (n26 : Int),slices_symMergeCmpFunc_Mark_j2 n25 n26 = some z3 ∧ σ' = ⟨220,[(0,.sl 6 b_0 0 p0x0.length),(2,I p2x0),(4,.func (.func fne_F) fne_C),(14,I n25),(15,I n26)],[(b_0,aE4 p0x0)]⟩) ?_ ?_
          · refine ATodo.cond_d J (fun hc=>?_) (fun hc=>?_)
            · exact have h := iteT hc h; tR<|rM J J<|ARun.qv (q_addw J J) J<|rA J J<|rN<|ATodo.stop<|ImpX.lq [0] ⟨w64 ((w64 (shrI .u64 (IntKind.u64.wrap (w64 (n20 + n21))) (1 : Int))) + (1 : Int)),n21,h,J⟩ J J
            · exact have h := iteF hc h; tR<|rM J J<|rA J J<|rN<|ATodo.stop<|ImpX.lq [0] ⟨n20,w64 (shrI .u64 (IntKind.u64.wrap (w64 (n20 + n21))) (1 : Int)),h,J⟩ J J
          · rintro σ' ⟨n25, n26, h, rfl⟩
            unfold slices_symMergeCmpFunc_Mark_j2 at h
            refine ATodo.blk<|ATodo.stop<|?_
            obtain rfl := Option.some.inj h
            exact hJ3 _ _ J<|ImpX.lq [0] J J J
        · refine have h := iteF hc h; ATodo.exit J<|have h := outL h hA3; tS<|tSR<|rM J J<|rA J J<|rN<|ATodo.block<|ATodo.loopI (fun x : (List MarkS) × Int=>slices_symMergeCmpFunc_Mark_b4 n20 x.1 x.2) (fun x σ'=>σ' = ⟨220,[(0,.sl 6 b_0 0 x.1.length),(14,I n20),(17,I x.2)],[(b_0,aE4 x.1)]⟩) h ?_ ?_
          · exact ImpX.lq [0] J J J
          · intro x z4 σ' J4 hmk h hJ4 hA4
            obtain ⟨l29, n30⟩ := x
            obtain rfl := hmk
            replace h : slices_symMergeCmpFunc_Mark_b4 n20 l29 n30 = some z4 := h
            unfold slices_symMergeCmpFunc_Mark_b4 at h
            refine tS<|tSR<|rM J J<|rM J J<|ARun.qv (q_gtr J J) J<|rN<|ATodo.cond_d J (fun hc=>?_) (fun hc=>?_)
            · refine have h := iteT hc h; tK<|tS<|ATodo.block<|bndE h fun v31 e11 h=>bndE h fun v32 e12 h=>bndE h fun v33 e13 h=>ATodo.regionT (id := 23) (A := [0,0,0,0,8,0,0,64,224,480,0,0,3072,7168,16355,32739,65535,131071]) (H0 := [(b_0,aE4 l29)]) (HH := fun β=>[(b_0,aE4 (l29.set n30.toNat v31))]) 16 mixed J (by kernel_rfl) (by kernel_rfl) [⟨none,some 15,[9,13],fun _=>(b_0,aE4 l29),none,[]⟩,⟨some 15,none,[],fun _=>(b_0,aE4 (l29.set n30.toNat v31)),none,[]⟩] [] J (by kernel_rfl) J (.cons .p0 .nil) (fun _=>J)<|AT.am 9 J J<|AM.qv (q_move J) J<|AM.qv (q_move J) J<|AM.qv (q_move J) J<|AM.qv (q_move J) J<|AM.qv (q_subw J J) J<|AM.qv (q_move J) J<|AM.qv (q_move J) J<|AM.qv (q_subw J J) J<|AM.qv (t_index_sl J J J e11) J<|AM.nil<|AT.rd (Rs := [(b_0,aE4 l29)]) (fun _=>J) J (fun _=>J) (fun _=>J) (t_load_aptr_agg (g := MarkS.av) J J (.inl .p0) J e11 J) J<|AT.am 3 J J<|AM.qv (q_move J) J<|AM.qv (q_move J) J<|AM.qv (t_index_sl J J J e12) J<|AM.nil<|AT.rd (Rs := [(b_0,aE4 l29)]) (fun _=>J) J (fun _=>J) (fun _=>J) (t_load_aptr_agg (g := MarkS.av) J J (.inl .p0) J e12 J) J<|AT.am 1 J J<|AM.qv (t_index_sl J J J e13) J<|AM.nil<|AT.run0 (Ti := [(b_0,aE4 l29)]) (Pi := [(b_0,aE4 (l29.set n30.toNat v31))]) (fun _=>J) (fun _=>J) (fun _=>J) J J ?_ ?_
              · exact t_store_aptr1 (g := MarkS.av) (el' := v31) J J J J e13 J .p0 J<|ARun.nil ⟨_,J⟩
              refine AT.nilN (fun _=>J) fun β=>ARun.ghost<|ImpX.eqs (s := 0) (av' := .sl 6 b_0 0 (l29.set n30.toNat v31).length) J (by simp)<|ImpX.here<|ARun.ghost<|ImpX.eqs (s := 113) (av' := .sl 6 b_0 0 (l29.set n30.toNat v31).length) J (by simp)<|ImpX.here<|ARun.ghost<|ImpX.eqs (s := 115) (av' := .sl 6 b_0 0 (l29.set n30.toNat v31).length) J (by simp)<|ImpX.here<|ARun.ghost<|ImpX.eqs (s := 118) (av' := .sl 6 b_0 0 (l29.set n30.toNat v31).length) J (by simp)<|ImpX.here<|ARun.ghost<|ImpX.eqs (s := 123) (av' := .sl 6 b_0 0 (l29.set n30.toNat v31).length) J (by simp)<|ImpX.here<|bndE h fun v34 e14 h=>ARun.qv (t_index_sl J J J e14) J<|t_store_aptr1 (g := MarkS.av) (el' := v32) J J J J e14 J .p0 J<|ARun.ghost<|ImpX.eqs (s := 0) (av' := .sl 6 b_0 0 ((l29.set n30.toNat v31).set (w64 (n30 - (1 : Int))).toNat v32).length) J (by rw [List.length_set])<|ImpX.here<|ARun.ghost<|ImpX.eqs (s := 113) (av' := .sl 6 b_0 0 ((l29.set n30.toNat v31).set (w64 (n30 - (1 : Int))).toNat v32).length) J (by rw [List.length_set])<|ImpX.here<|ARun.ghost<|ImpX.eqs (s := 115) (av' := .sl 6 b_0 0 ((l29.set n30.toNat v31).set (w64 (n30 - (1 : Int))).toNat v32).length) J (by rw [List.length_set])<|ImpX.here<|ARun.ghost<|ImpX.eqs (s := 118) (av' := .sl 6 b_0 0 ((l29.set n30.toNat v31).set (w64 (n30 - (1 : Int))).toNat v32).length) J (by rw [List.length_set])<|ImpX.here<|ARun.ghost<|ImpX.eqs (s := 123) (av' := .sl 6 b_0 0 ((l29.set n30.toNat v31).set (w64 (n30 - (1 : Int))).toNat v32).length) J (by rw [List.length_set])<|ImpX.here<|rN<|ATodo.blk<|tR<|rM J J<|ARun.qv (q_subw J J) J<|rA J J<|rN<|ATodo.stop<|?_
              obtain rfl := Option.some.inj h
              exact hJ4 _ _ J<|ImpX.lq [0] J J J
            · refine have h := iteF hc h; ATodo.exit J<|have h := outL h hA4; ATodo.ret<|?_
              obtain rfl := Option.some.inj h
              exact ImpX.here ⟨_,.nil,_,.cons .p0 .nil,⟨J,J⟩⟩
    · refine have h := iteF hc h; tK<|tSR<|rM J J<|rM J J<|ARun.qv (q_addw J J) J<|ARun.qv (q_conv_int J) J<|ARun.qv (t_shr J J (by decide)) J<|ARun.qv (q_conv_int J) J<|rA J J<|rN<|tSR<|rM J J<|rM J J<|ARun.qv (q_addw J J) J<|rA J J<|rN<|tSR<|rA J J<|rA J J<|rN<|tS<|tSR<|rM J J<|rM J J<|ARun.qv (q_gtr J J) J<|rN<|ATodo.cut (fun σ'=>∃ (n35 : Int) (n36 : Int),slices_symMergeCmpFunc_Mark_j3 self p0x0 p1x0 p2x0 p3x0 fne n35 n36 = some r ∧ σ' = ⟨220,[(0,.sl 6 b_0 0 p0x0.length),(1,I p1x0),(2,I p2x0),(3,I p3x0),(4,.func (.func fne_F) fne_C),(18,I (w64 (shrI .u64 (IntKind.u64.wrap (w64 (p1x0 + p3x0))) (1 : Int)))),(19,I (w64 ((w64 (shrI .u64 (IntKind.u64.wrap (w64 (p1x0 + p3x0))) (1 : Int))) + p2x0))),(20,I n35),(21,I n36)],[(b_0,aE4 p0x0)]⟩) ?_ ?_
      · refine ATodo.cond_d J (fun hc=>?_) (fun hc=>?_)
        · exact have h := iteT hc h; tSR<|rM J J<|rM J J<|ARun.qv (q_subw J J) J<|rA J J<|rN<|tR<|rM J J<|rA J J<|rN<|ATodo.stop<|ImpX.lq [0] ⟨w64 ((w64 ((w64 (shrI .u64 (IntKind.u64.wrap (w64 (p1x0 + p3x0))) (1 : Int))) + p2x0)) - p3x0),w64 (shrI .u64 (IntKind.u64.wrap (w64 (p1x0 + p3x0))) (1 : Int)),h,J⟩ J J
        · exact have h := iteF hc h; tSR<|rM J J<|rA J J<|rN<|tR<|rM J J<|rA J J<|rN<|ATodo.stop<|ImpX.lq [0] ⟨p1x0,p2x0,h,J⟩ J J
      · rintro σ' ⟨n35, n36, h, rfl⟩
        unfold slices_symMergeCmpFunc_Mark_j3 at h
        refine tSR<|rM J J<|ARun.qv (q_subw J J) J<|rA J J<|rN<|tS<|ATodo.block<|ATodo.loopI (fun x : Int × Int=>slices_symMergeCmpFunc_Mark_b5 self p0x0 p1x0 p2x0 p3x0 fne x.1 x.2) (fun x σ'=>σ' = ⟨220,[(0,.sl 6 b_0 0 p0x0.length),(1,I p1x0),(2,I p2x0),(3,I p3x0),(4,.func (.func fne_F) fne_C),(18,I (w64 (shrI .u64 (IntKind.u64.wrap (w64 (p1x0 + p3x0))) (1 : Int)))),(19,I (w64 ((w64 (shrI .u64 (IntKind.u64.wrap (w64 (p1x0 + p3x0))) (1 : Int))) + p2x0))),(20,I x.1),(21,I x.2),(22,I (w64 ((w64 ((w64 (shrI .u64 (IntKind.u64.wrap (w64 (p1x0 + p3x0))) (1 : Int))) + p2x0)) - (1 : Int))))],[(b_0,aE4 p0x0)]⟩) h ?_ ?_
        · exact ImpX.lq [0] J J J
        · intro x z5 σ' J5 hmk h hJ5 hA5
          obtain ⟨n39, n40⟩ := x
          obtain rfl := hmk
          replace h : slices_symMergeCmpFunc_Mark_b5 self p0x0 p1x0 p2x0 p3x0 fne n39 n40 = some z5 := h
          unfold slices_symMergeCmpFunc_Mark_b5 at h
          refine tS<|tSR<|rM J J<|rM J J<|ARun.qv (q_lss J J) J<|rN<|ATodo.cond_d J (fun hc=>?_) (fun hc=>?_)
          · refine have h := iteT hc h; tK<|ATodo.block<|tSR<|rM J J<|rM J J<|ARun.qv (q_addw J J) J<|ARun.qv (q_conv_int J) J<|ARun.qv (t_shr J J (by decide)) J<|ARun.qv (q_conv_int J) J<|rA J J<|rN<|tS<|ATodo.regionM (id := 35) (A := [0,0,0,0,12,30,62,0,0,384,896,2047,4095,8191]) 14 mixed J (by kernel_rfl) (by kernel_rfl)<|AM.qv (q_move J) J<|AM.qv (q_move J) J<|AM.qv (q_move J) J<|AM.qv (q_move J) J<|AM.qv (q_subw J J) J<|bndE h fun v41 e15 h=>AM.qv (t_index_sl J J J e15) J<|AM.qv (t_load_aptr_agg (g := MarkS.av) J J (.inl .p0) J e15 J) J<|AM.qv (q_move J) J<|AM.qv (q_move J) J<|bndE h fun v42 e16 h=>AM.qv (t_index_sl J J J e16) J<|AM.qv (t_load_aptr_agg (g := MarkS.av) J J (.inl .p0) J e16 J) J<|bndE h fun v43 e17 h=>AM.callvp J J (fne_h e17) (CoL.refl _) J<|AM.qv (q_lss J J) J<|AM.qv (q_not_d J) J<|AM.nil<|rN<|ATodo.cut (fun σ'=>∃ (n44 : Int) (n45 : Int),slices_symMergeCmpFunc_Mark_j4 n44 n45 = some z5 ∧ σ' = ⟨220,[(0,.sl 6 b_0 0 p0x0.length),(1,I p1x0),(2,I p2x0),(3,I p3x0),(4,.func (.func fne_F) fne_C),(18,I (w64 (shrI .u64 (IntKind.u64.wrap (w64 (p1x0 + p3x0))) (1 : Int)))),(19,I (w64 ((w64 (shrI .u64 (IntKind.u64.wrap (w64 (p1x0 + p3x0))) (1 : Int))) + p2x0))),(20,I n44),(21,I n45),(22,I (w64 ((w64 ((w64 (shrI .u64 (IntKind.u64.wrap (w64 (p1x0 + p3x0))) (1 : Int))) + p2x0)) - (1 : Int))))],[(b_0,aE4 p0x0)]⟩) ?_ ?_
            · refine ATodo.cond_d J (fun hc=>?_) (fun hc=>?_)
              · exact have h := iteT hc h; tR<|rM J J<|ARun.qv (q_addw J J) J<|rA J J<|rN<|ATodo.stop<|ImpX.lq [0] ⟨w64 ((w64 (shrI .u64 (IntKind.u64.wrap (w64 (n39 + n40))) (1 : Int))) + (1 : Int)),n40,h,J⟩ J J
              · exact have h := iteF hc h; tR<|rM J J<|rA J J<|rN<|ATodo.stop<|ImpX.lq [0] ⟨n39,w64 (shrI .u64 (IntKind.u64.wrap (w64 (n39 + n40))) (1 : Int)),h,J⟩ J J
            · rintro σ' ⟨n44, n45, h, rfl⟩
              unfold slices_symMergeCmpFunc_Mark_j4 at h
              refine ATodo.blk<|ATodo.stop<|?_
              obtain rfl := Option.some.inj h
              exact hJ5 _ _ J<|ImpX.lq [0] J J J
          · refine have h := iteF hc h; ATodo.exit J<|have h := outL h hA5; tSR<|rM J J<|rM J J<|ARun.qv (q_subw J J) J<|rA J J<|rN<|tS<|tS<|ATodo.cut (fun σ'=>∃ (c46 : Bool),slices_symMergeCmpFunc_Mark_j5 self p0x0 p1x0 p2x0 p3x0 fne n39 c46 = some r ∧ σ' = ⟨220,[(0,.sl 6 b_0 0 p0x0.length),(1,I p1x0),(2,I p2x0),(3,I p3x0),(4,.func (.func fne_F) fne_C),(18,I (w64 (shrI .u64 (IntKind.u64.wrap (w64 (p1x0 + p3x0))) (1 : Int)))),(20,I n39),(24,I (w64 ((w64 ((w64 (shrI .u64 (IntKind.u64.wrap (w64 (p1x0 + p3x0))) (1 : Int))) + p2x0)) - n39))),(185,.bool c46)],[(b_0,aE4 p0x0)]⟩) ?_ ?_
            · refine tR<|rM J J<|rM J J<|ARun.qv (q_lss J J) J<|rM J J<|ARun.guard_dt J J J (fun hc=>?_) (fun hc=>?_)
              · rw [andTd hc] at h
                exact rM J J<|rY J J J<|rM J J<|rY J J J<|ARun.qv (q_lss J J) J<|rT J J J<|rN<|ATodo.stop<|ImpX.lq [0] ⟨decide (p2x0 < (w64 ((w64 ((w64 (shrI .u64 (IntKind.u64.wrap (w64 (p1x0 + p3x0))) (1 : Int))) + p2x0)) - n39))),h,J⟩ J J
              · rw [andFd hc] at h
                exact rG J J J J<|rG J J J J<|rE J J J<|rN<|ATodo.stop<|ImpX.lq [0] ⟨false,h,J⟩ J J
            · rintro σ' ⟨c46, h, rfl⟩
              unfold slices_symMergeCmpFunc_Mark_j5 at h
              refine ATodo.cut (fun σ'=>∃ (l47 : List MarkS),slices_symMergeCmpFunc_Mark_j6 self p1x0 p2x0 p3x0 fne n39 l47 = some r ∧ σ' = ⟨220,[(0,.sl 6 b_0 0 l47.length),(1,I p1x0),(3,I p3x0),(4,.func (.func fne_F) fne_C),(18,I (w64 (shrI .u64 (IntKind.u64.wrap (w64 (p1x0 + p3x0))) (1 : Int)))),(20,I n39),(24,I (w64 ((w64 ((w64 (shrI .u64 (IntKind.u64.wrap (w64 (p1x0 + p3x0))) (1 : Int))) + p2x0)) - n39)))],[(b_0,aE4 l47)]⟩) ?_ ?_
              · refine ATodo.cond J (fun hc=>?_) (fun hc=>?_)
                · exact have h := iteT hc h; tR<|rM J J<|rM J J<|rM J J<|rM J J<|rM J J<|bndE h fun v48 e18 h=>t_call0 J (slices_rotateCmpFunc_Mark_c fne_h (lenOk_f e18)) (CoL.refl _) (.cons .p0 .nil) J J<|ARun.ghost<|ImpX.eqs (s := 0) (av' := .sl 6 b_0 0 v48.length) J (congrArg (AV.sl 6 b_0 0) (lenOk_l e18))<|ImpX.here<|ARun.ghost<|ImpX.eqs (s := 186) (av' := .sl 6 b_0 0 v48.length) J (congrArg (AV.sl 6 b_0 0) (lenOk_l e18))<|ImpX.here<|rN<|ATodo.stop<|ImpX.lq [0] ⟨v48,h,J⟩ J J
                · exact have h := iteFb hc h; tK<|ATodo.stop<|ImpX.lq [0] ⟨p0x0,h,J⟩ J J
              · rintro σ' ⟨l47, h, rfl⟩
                unfold slices_symMergeCmpFunc_Mark_j6 at h
                refine tS<|tS<|ATodo.cut (fun σ'=>∃ (c49 : Bool),slices_symMergeCmpFunc_Mark_j7 self p1x0 p2x0 p3x0 fne n39 l47 c49 = some r ∧ σ' = ⟨220,[(0,.sl 6 b_0 0 l47.length),(1,I p1x0),(3,I p3x0),(4,.func (.func fne_F) fne_C),(18,I (w64 (shrI .u64 (IntKind.u64.wrap (w64 (p1x0 + p3x0))) (1 : Int)))),(20,I n39),(24,I (w64 ((w64 ((w64 (shrI .u64 (IntKind.u64.wrap (w64 (p1x0 + p3x0))) (1 : Int))) + p2x0)) - n39))),(199,.bool c49)],[(b_0,aE4 l47)]⟩) ?_ ?_
                · refine tR<|rM J J<|rM J J<|ARun.qv (q_lss J J) J<|rM J J<|ARun.guard_dt J J J (fun hc=>?_) (fun hc=>?_)
                  · rw [andTd hc] at h
                    exact rM J J<|rY J J J<|rM J J<|rY J J J<|ARun.qv (q_lss J J) J<|rT J J J<|rN<|ATodo.stop<|ImpX.lq [0] ⟨decide (n39 < (w64 (shrI .u64 (IntKind.u64.wrap (w64 (p1x0 + p3x0))) (1 : Int)))),h,J⟩ J J
                  · rw [andFd hc] at h
                    exact rG J J J J<|rG J J J J<|rE J J J<|rN<|ATodo.stop<|ImpX.lq [0] ⟨false,h,J⟩ J J
                · rintro σ' ⟨c49, h, rfl⟩
                  unfold slices_symMergeCmpFunc_Mark_j7 at h
                  refine ATodo.cut (fun σ'=>∃ (l50 : List MarkS),slices_symMergeCmpFunc_Mark_j8 self p1x0 p2x0 p3x0 fne n39 l50 = some r ∧ σ' = ⟨220,[(0,.sl 6 b_0 0 l50.length),(3,I p3x0),(4,.func (.func fne_F) fne_C),(18,I (w64 (shrI .u64 (IntKind.u64.wrap (w64 (p1x0 + p3x0))) (1 : Int)))),(24,I (w64 ((w64 ((w64 (shrI .u64 (IntKind.u64.wrap (w64 (p1x0 + p3x0))) (1 : Int))) + p2x0)) - n39)))],[(b_0,aE4 l50)]⟩) ?_ ?_
                  · refine ATodo.cond J (fun hc=>?_) (fun hc=>?_)
                    · exact have h := iteT hc h; tR<|rM J J<|rM J J<|rM J J<|rM J J<|rM J J<|bndE h fun v51 e19 h=>t_call0 J (self_h fne_h (lenOk_f e19)) (CoL.refl _) (.cons .p0 .nil) J J<|ARun.ghost<|ImpX.eqs (s := 0) (av' := .sl 6 b_0 0 v51.length) J (congrArg (AV.sl 6 b_0 0) (lenOk_l e19))<|ImpX.here<|ARun.ghost<|ImpX.eqs (s := 200) (av' := .sl 6 b_0 0 v51.length) J (congrArg (AV.sl 6 b_0 0) (lenOk_l e19))<|ImpX.here<|rN<|ATodo.stop<|ImpX.lq [0] ⟨v51,h,J⟩ J J
                    · exact have h := iteFb hc h; tK<|ATodo.stop<|ImpX.lq [0] ⟨l47,h,J⟩ J J
                  · rintro σ' ⟨l50, h, rfl⟩
                    unfold slices_symMergeCmpFunc_Mark_j8 at h
                    refine tS<|ATodo.cut (fun σ'=>∃ (c52 : Bool),slices_symMergeCmpFunc_Mark_j9 self p1x0 p2x0 p3x0 fne n39 l50 c52 = some r ∧ σ' = ⟨220,[(0,.sl 6 b_0 0 l50.length),(3,I p3x0),(4,.func (.func fne_F) fne_C),(18,I (w64 (shrI .u64 (IntKind.u64.wrap (w64 (p1x0 + p3x0))) (1 : Int)))),(24,I (w64 ((w64 ((w64 (shrI .u64 (IntKind.u64.wrap (w64 (p1x0 + p3x0))) (1 : Int))) + p2x0)) - n39))),(213,.bool c52)],[(b_0,aE4 l50)]⟩) ?_ ?_
                    · refine tR<|rM J J<|rM J J<|ARun.qv (q_lss J J) J<|rM J J<|ARun.guard_dt J J J (fun hc=>?_) (fun hc=>?_)
                      · rw [andTd hc] at h
                        exact rM J J<|rY J J J<|rM J J<|rY J J J<|ARun.qv (q_lss J J) J<|rT J J J<|rN<|ATodo.stop<|ImpX.lq [0] ⟨decide ((w64 ((w64 ((w64 (shrI .u64 (IntKind.u64.wrap (w64 (p1x0 + p3x0))) (1 : Int))) + p2x0)) - n39)) < p3x0),h,J⟩ J J
                      · rw [andFd hc] at h
                        exact rG J J J J<|rG J J J J<|rE J J J<|rN<|ATodo.stop<|ImpX.lq [0] ⟨false,h,J⟩ J J
                    · rintro σ' ⟨c52, h, rfl⟩
                      unfold slices_symMergeCmpFunc_Mark_j9 at h
                      refine ATodo.cut (fun σ'=>∃ (l53 : List MarkS),slices_symMergeCmpFunc_Mark_j10 l53 = some r ∧ σ' = ⟨220,[],[(b_0,aE4 l53)]⟩) ?_ ?_
                      · refine ATodo.cond J (fun hc=>?_) (fun hc=>?_)
                        · exact have h := iteT hc h; tR<|rM J J<|rM J J<|rM J J<|rM J J<|rM J J<|bndE h fun v54 e20 h=>t_call0 J (self_h fne_h (lenOk_f e20)) (CoL.refl _) (.cons .p0 .nil) J J<|ARun.ghost<|ImpX.eqs (s := 0) (av' := .sl 6 b_0 0 v54.length) J (congrArg (AV.sl 6 b_0 0) (lenOk_l e20))<|ImpX.here<|ARun.ghost<|ImpX.eqs (s := 214) (av' := .sl 6 b_0 0 v54.length) J (congrArg (AV.sl 6 b_0 0) (lenOk_l e20))<|ImpX.here<|rN<|ATodo.stop<|ImpX.lq [0] ⟨v54,h,J⟩ J J
                        · exact have h := iteFb hc h; tK<|ATodo.stop<|ImpX.lq [0] ⟨l50,h,J⟩ J J
                      · rintro σ' ⟨l53, h, rfl⟩
                        unfold slices_symMergeCmpFunc_Mark_j10 at h
                        refine ATodo.nil<|?_
                        obtain rfl := Option.some.inj h
                        exact ImpX.here ⟨_,.nil,_,.cons .p0 .nil,⟨J,J⟩⟩
theorem slices_symMergeCmpFunc_Mark_r_c [GI : GTab] : ∀ (k : Nat) {b_0 : Bk} {p0x0 : List MarkS} {p1x0 : Int} {p2x0 : Int} {p3x0 : Int} {fne : MarkS → MarkS → Option Int} {fne_F : FuncId} [IsFn Tryz.prog fne_F] {fne_C : List AV} (fne_h : ∀ {y0 y1 : _} {u : Int},fne y0 y1 = some u → Pu Tryz.prog fne_F (MarkS.av y0 :: MarkS.av y1 ::  fne_C) (I u)) {r : (List MarkS)},slices_symMergeCmpFunc_Mark_r k p0x0 p1x0 p2x0 p3x0 fne = some r → ACall Tryz.prog 137 [.sl 6 b_0 0 p0x0.length,I p1x0,I p2x0,I p3x0,.func (.func fne_F) fne_C] [(b_0,aE4 p0x0)] (T0 ([(b_0,aE4 r)]) (.tup [])) := by
  intro k
  induction k with
  | zero=>intro b_0 p0x0 p1x0 p2x0 p3x0 fne fne_F _ fne_C fne_h r h; cases h
  | succ k ih=>intro b_0 p0x0 p1x0 p2x0 p3x0 fne fne_F _ fne_C fne_h r h; exact slices_symMergeCmpFunc_Mark_bd_c ih fne_h h
theorem slices_symMergeCmpFunc_Mark_c [GI : GTab] {b_0 : Bk} {p0x0 : List MarkS} {p1x0 : Int} {p2x0 : Int} {p3x0 : Int} {fne : MarkS → MarkS → Option Int} {fne_F : FuncId} [IsFn Tryz.prog fne_F] {fne_C : List AV} (fne_h : ∀ {y0 y1 : _} {u : Int},fne y0 y1 = some u → Pu Tryz.prog fne_F (MarkS.av y0 :: MarkS.av y1 ::  fne_C) (I u)) {r : (List MarkS)} (h : slices_symMergeCmpFunc_Mark p0x0 p1x0 p2x0 p3x0 fne = some r) : ACall Tryz.prog 137 [.sl 6 b_0 0 p0x0.length,I p1x0,I p2x0,I p3x0,.func (.func fne_F) fne_C] [(b_0,aE4 p0x0)] (T0 ([(b_0,aE4 r)]) (.tup [])) := slices_symMergeCmpFunc_Mark_r_c depth fne_h h

theorem slices_stableCmpFunc_Mark_c [GI : GTab] {b_0 : Bk} {p0x0 : List MarkS} {p1x0 : Int} {fnc : MarkS → MarkS → Option Int} {fnc_F : FuncId} [IsFn Tryz.prog fnc_F] {fnc_C : List AV} (fnc_h : ∀ {y0 y1 : _} {u : Int},fnc y0 y1 = some u → Pu Tryz.prog fnc_F (MarkS.av y0 :: MarkS.av y1 ::  fnc_C) (I u)) {r : (List MarkS)} (h : slices_stableCmpFunc_Mark p0x0 p1x0 fnc = some r) : ACall Tryz.prog 101 [.sl 6 b_0 0 p0x0.length,I p1x0,.func (.func fnc_F) fnc_C] [(b_0,aE4 p0x0)] (T0 ([(b_0,aE4 r)]) (.tup [])) := by
  unfold slices_stableCmpFunc_Mark at h
  refine ACall.lessH ?_
  refine ACall.bodyN Tryz.func101 J Tryz.ntmps101 Tryz.results101 J J ?_
  refine tSR<|rA J J<|rN<|tSR<|rM J J<|rA J J<|rA J J<|rN<|tS<|ATodo.block<|ATodo.loopI (fun x : (List MarkS) × Int × Int=>slices_stableCmpFunc_Mark_b1 p1x0 fnc x.1 x.2.1 x.2.2) (fun x σ'=>σ' = ⟨63,[(0,.sl 6 b_0 0 x.1.length),(1,I p1x0),(2,.func (.func fnc_F) fnc_C),(6,I (20 : Int)),(7,I x.2.1),(8,I x.2.2)],[(b_0,aE4 x.1)]⟩) h ?_ ?_
  · exact ImpX.lq [0] J J J
  · intro x z1 σ' J1 hmk h hJ1 hA1
    obtain ⟨l4, n5, n6⟩ := x
    obtain rfl := hmk
    replace h : slices_stableCmpFunc_Mark_b1 p1x0 fnc l4 n5 n6 = some z1 := h
    unfold slices_stableCmpFunc_Mark_b1 at h
    refine tS<|tSR<|rM J J<|rM J J<|ARun.qv (q_leq J J) J<|rN<|ATodo.cond_d J (fun hc=>?_) (fun hc=>?_)
    · refine have h := iteT hc h; tK<|ATodo.block<|tSR<|rM J J<|rM J J<|rM J J<|rM J J<|bndE h fun v7 e1 h=>t_call0 J (slices_insertionSortCmpFunc_Mark_c fnc_h (lenOk_f e1)) (CoL.refl _) (.cons .p0 .nil) J J<|ARun.ghost<|ImpX.eqs (s := 0) (av' := .sl 6 b_0 0 v7.length) J (congrArg (AV.sl 6 b_0 0) (lenOk_l e1))<|ImpX.here<|ARun.ghost<|ImpX.eqs (s := 14) (av' := .sl 6 b_0 0 v7.length) J (congrArg (AV.sl 6 b_0 0) (lenOk_l e1))<|ImpX.here<|rN<|tSR<|rM J J<|rA J J<|rN<|tR<|rM J J<|rM J J<|ARun.qv (q_addw J J) J<|rA J J<|rN<|ATodo.blk<|ATodo.stop<|?_
      obtain rfl := Option.some.inj h
      exact hJ1 _ _ J<|ImpX.lq [0] J J J
    · refine have h := iteF hc h; ATodo.exit J<|have h := outL h hA1; ?_
      unfold slices_stableCmpFunc_Mark_k3 at h
      refine tSR<|rM J J<|rM J J<|rM J J<|rM J J<|bndE h fun v8 e2 h=>t_call0 J (slices_insertionSortCmpFunc_Mark_c fnc_h (lenOk_f e2)) (CoL.refl _) (.cons .p0 .nil) J J<|ARun.ghost<|ImpX.eqs (s := 0) (av' := .sl 6 b_0 0 v8.length) J (congrArg (AV.sl 6 b_0 0) (lenOk_l e2))<|ImpX.here<|ARun.ghost<|ImpX.eqs (s := 23) (av' := .sl 6 b_0 0 v8.length) J (congrArg (AV.sl 6 b_0 0) (lenOk_l e2))<|ImpX.here<|rN<|ATodo.block<|ATodo.loopI (fun x : (List MarkS) × Int=>slices_stableCmpFunc_Mark_b2 p1x0 fnc x.1 x.2) (fun x σ'=>σ' = ⟨63,[(0,.sl 6 b_0 0 x.1.length),(1,I p1x0),(2,.func (.func fnc_F) fnc_C),(6,I x.2)],[(b_0,aE4 x.1)]⟩) h ?_ ?_
      · exact ImpX.lq [0] J J J
      · intro x z2 σ' J2 hmk h hJ2 hA2
        obtain ⟨l11, n12⟩ := x
        obtain rfl := hmk
        replace h : slices_stableCmpFunc_Mark_b2 p1x0 fnc l11 n12 = some z2 := h
        unfold slices_stableCmpFunc_Mark_b2 at h
        refine tS<|tSR<|rM J J<|rM J J<|ARun.qv (q_lss J J) J<|rN<|ATodo.cond_d J (fun hc=>?_) (fun hc=>?_)
        · refine have h := iteT hc h; tK<|ATodo.block<|tSR<|rM J J<|ARun.qv (q_mulw J J) J<|rA J J<|rA J J<|rN<|tS<|ATodo.block<|ATodo.loopI (fun x : (List MarkS) × Int × Int=>slices_stableCmpFunc_Mark_b3 p1x0 fnc n12 x.1 x.2.1 x.2.2) (fun x σ'=>σ' = ⟨63,[(0,.sl 6 b_0 0 x.1.length),(1,I p1x0),(2,.func (.func fnc_F) fnc_C),(6,I n12),(7,I x.2.1),(8,I x.2.2)],[(b_0,aE4 x.1)]⟩) h ?_ ?_
          · exact ImpX.lq [0] J J J
          · intro x z3 σ' J3 hmk h hJ3 hA3
            obtain ⟨l16, n17, n18⟩ := x
            obtain rfl := hmk
            replace h : slices_stableCmpFunc_Mark_b3 p1x0 fnc n12 l16 n17 n18 = some z3 := h
            unfold slices_stableCmpFunc_Mark_b3 at h
            refine tS<|tSR<|rM J J<|rM J J<|ARun.qv (q_leq J J) J<|rN<|ATodo.cond_d J (fun hc=>?_) (fun hc=>?_)
            · refine have h := iteT hc h; tK<|ATodo.block<|tSR<|rM J J<|rM J J<|rM J J<|rM J J<|ARun.qv (q_addw J J) J<|rM J J<|rM J J<|bndE h fun v19 e3 h=>t_call0 J (slices_symMergeCmpFunc_Mark_c fnc_h (lenOk_f e3)) (CoL.refl _) (.cons .p0 .nil) J J<|ARun.ghost<|ImpX.eqs (s := 0) (av' := .sl 6 b_0 0 v19.length) J (congrArg (AV.sl 6 b_0 0) (lenOk_l e3))<|ImpX.here<|ARun.ghost<|ImpX.eqs (s := 36) (av' := .sl 6 b_0 0 v19.length) J (congrArg (AV.sl 6 b_0 0) (lenOk_l e3))<|ImpX.here<|rN<|tSR<|rM J J<|rA J J<|rN<|tR<|rM J J<|rM J J<|ARun.qv (q_mulw J J) J<|ARun.qv (q_addw J J) J<|rA J J<|rN<|ATodo.blk<|ATodo.stop<|?_
              obtain rfl := Option.some.inj h
              exact hJ3 _ _ J<|ImpX.lq [0] J J J
            · refine have h := iteF hc h; ATodo.exit J<|have h := outL h hA3; ?_
              unfold slices_stableCmpFunc_Mark_k2 at h
              refine tS<|tSR<|rM J J<|rM J J<|ARun.qv (q_addw J J) J<|rA J J<|rN<|tSR<|rM J J<|rM J J<|ARun.qv (q_lss J J) J<|rN<|ATodo.cut (fun σ'=>∃ (l20 : List MarkS),slices_stableCmpFunc_Mark_j1 n12 l20 = some z2 ∧ σ' = ⟨63,[(0,.sl 6 b_0 0 l20.length),(1,I p1x0),(2,.func (.func fnc_F) fnc_C),(6,I n12)],[(b_0,aE4 l20)]⟩) ?_ ?_
              · refine ATodo.cond_d J (fun hc=>?_) (fun hc=>?_)
                · exact have h := iteT hc h; tR<|rM J J<|rM J J<|rM J J<|rM J J<|rM J J<|bndE h fun v21 e4 h=>t_call0 J (slices_symMergeCmpFunc_Mark_c fnc_h (lenOk_f e4)) (CoL.refl _) (.cons .p0 .nil) J J<|ARun.ghost<|ImpX.eqs (s := 0) (av' := .sl 6 b_0 0 v21.length) J (congrArg (AV.sl 6 b_0 0) (lenOk_l e4))<|ImpX.here<|ARun.ghost<|ImpX.eqs (s := 55) (av' := .sl 6 b_0 0 v21.length) J (congrArg (AV.sl 6 b_0 0) (lenOk_l e4))<|ImpX.here<|rN<|ATodo.stop<|ImpX.lq [0] ⟨v21,h,J⟩ J J
                · exact have h := iteF hc h; tK<|ATodo.stop<|ImpX.lq [0] ⟨l16,h,J⟩ J J
              · rintro σ' ⟨l20, h, rfl⟩
                unfold slices_stableCmpFunc_Mark_j1 at h
                refine tR<|rM J J<|ARun.qv (q_mulw J J) J<|rA J J<|rN<|ATodo.blk<|ATodo.stop<|?_
                obtain rfl := Option.some.inj h
                exact hJ2 _ _ J<|ImpX.lq [0] J J J
        · refine have h := iteF hc h; ATodo.exit J<|have h := outL h hA2; ATodo.nil<|?_
          obtain rfl := Option.some.inj h
          exact ImpX.here ⟨_,.nil,_,.cons .p0 .nil,⟨J,J⟩⟩

theorem slices_SortStableFunc_Mark_Mark_c [GI : GTab] {b_0 : Bk} {p0x0 : List MarkS} {fnb : MarkS → MarkS → Option Int} {fnb_F : FuncId} [IsFn Tryz.prog fnb_F] {fnb_C : List AV} (fnb_h : ∀ {y0 y1 : _} {u : Int},fnb y0 y1 = some u → Pu Tryz.prog fnb_F (MarkS.av y0 :: MarkS.av y1 ::  fnb_C) (I u)) {r : (List MarkS)} (h : slices_SortStableFunc_Mark_Mark p0x0 fnb = some r) : ACall Tryz.prog 47 [.sl 6 b_0 0 p0x0.length,.func (.func fnb_F) fnb_C] [(b_0,aE4 p0x0)] (T0 ([(b_0,aE4 r)]) (.tup [])) := by
  unfold slices_SortStableFunc_Mark_Mark at h
  refine ACall.lessH ?_
  refine ACall.bodyN Tryz.func47 J Tryz.ntmps47 Tryz.results47 J J ?_
  refine tR<|rM J J<|rM J J<|ARun.qv (t_len_sl J) J<|rM J J<|bndE h fun v1 e1 h=>t_call0 J (slices_stableCmpFunc_Mark_c fnb_h (lenOk_f e1)) (CoL.refl _) (.cons .p0 .nil) J J<|ARun.ghost<|ImpX.eqs (s := 0) (av' := .sl 6 b_0 0 v1.length) J (congrArg (AV.sl 6 b_0 0) (lenOk_l e1))<|ImpX.here<|ARun.ghost<|ImpX.eqs (s := 4) (av' := .sl 6 b_0 0 v1.length) J (congrArg (AV.sl 6 b_0 0) (lenOk_l e1))<|ImpX.here<|ARun.ghost<|ImpX.eqs (s := 5) (av' := .sl 6 b_0 0 v1.length) J (congrArg (AV.sl 6 b_0 0) (lenOk_l e1))<|ImpX.here<|rN<|ATodo.nil<|?_
  obtain rfl := Option.some.inj h
  exact ImpX.here ⟨_,.nil,_,.cons .p0 .nil,⟨J,J⟩⟩

theorem Stream_Marks_1x_c [GI : GTab] {p0x0 : MarkS} {p1x0 : MarkS} {r : Bool} (h : Stream_Marks_1x p0x0 p1x0 = r) : Pu Tryz.prog 50 [MarkS.av p0x0,MarkS.av p1x0] (.bool r) := by
  unfold Stream_Marks_1x at h
  refine ACall.bodyN Tryz.func50 J Tryz.ntmps50 Tryz.results50 J J ?_
  refine tSR<|n_box J J J J fun b1=>n_box J J J J fun b2=>rA J J<|rN<|tSR<|ARun.qv (q_load_ptr_all J J .p1 J) J<|ARun.qv (q_load_ptr_all J J .p0 J) J<|r_callp J (Q_MarkOrder_c J) (CoL.refl _) J<|ARun.qv (q_eql J J) J<|rA J J<|rN<|ATodo.ret<|?_
  obtain rfl := h
  exact ImpX.here ⟨_,.cons (.tmp _ _ J) .nil,J⟩

theorem slices_CompactFunc_Mark_Mark_c [GI : GTab] {b_0 : Bk} {p0x0 : List MarkS} {fnb : MarkS → MarkS → Option Bool} {fnb_F : FuncId} [IsFn Tryz.prog fnb_F] {fnb_C : List AV} (fnb_h : ∀ {y0 y1 : _} {u : Bool},fnb y0 y1 = some u → Pu Tryz.prog fnb_F (MarkS.av y0 :: MarkS.av y1 ::  fnb_C) (.bool u)) {r : (List MarkS)} (h : slices_CompactFunc_Mark_Mark p0x0 fnb = some r) : ACall Tryz.prog 49 [.sl 6 b_0 0 p0x0.length,.func (.func fnb_F) fnb_C] [(b_0,aE4 p0x0)] (T1 (fun d_0=>[(d_0,aE4 r)]) (fun d_0=>.sl 6 d_0 0 r.length)) := by
  unfold slices_CompactFunc_Mark_Mark at h
  refine ACall.lessH ?_
  refine ACall.bodyN Tryz.func49 J Tryz.ntmps49 Tryz.results49 J J ?_
  refine tSR<|rA J J<|rN<|tS<|tSR<|rM J J<|ARun.qv (t_len_sl J) J<|ARun.qv (q_lss J J) J<|rN<|ATodo.cond_d J (fun hc=>?_) (fun hc=>?_)
  · refine have h := iteT hc h; tSR<|rM J J<|rA J J<|rN<|ATodo.ret<|?_
    obtain rfl := Option.some.inj h
    exact ImpX.here ⟨_,.cons (.tmp _ _ J) .nil,_,.cons .p0 .nil,⟨b_0,J,J⟩⟩
  · refine have h := iteF hc h; tK<|tS<|tSR<|rA J J<|rN<|ATodo.block<|ATodo.loopI (fun x : Int=>slices_CompactFunc_Mark_Mark_b1 p0x0 fnb x) (fun x σ'=>σ' = ⟨66,[(0,.sl 6 b_0 0 p0x0.length),(1,.func (.func fnb_F) fnb_C),(5,I x)],[(b_0,aE4 p0x0)]⟩) h ?_ ?_
    · exact ImpX.lq [0] J J J
    · intro n2 z1 σ' J1 hmk h hJ1 hA1
      obtain rfl := hmk
      replace h : slices_CompactFunc_Mark_Mark_b1 p0x0 fnb n2 = some z1 := h
      unfold slices_CompactFunc_Mark_Mark_b1 at h
      refine tS<|tSR<|rM J J<|rM J J<|ARun.qv (t_len_sl J) J<|ARun.qv (q_lss J J) J<|rN<|ATodo.cond_d J (fun hc=>?_) (fun hc=>?_)
      · refine have h := iteT hc h; tK<|tS<|ATodo.block<|tS<|ATodo.regionM (id := 6) (A := [0,0,0,6,14,0,0,64,224,480,1023]) 11 mixed J (by kernel_rfl) (by kernel_rfl)<|AM.qv (q_move J) J<|AM.qv (q_move J) J<|AM.qv (q_move J) J<|bndE h fun v3 e1 h=>AM.qv (t_index_sl J J J e1) J<|AM.qv (t_load_aptr_agg (g := MarkS.av) J J (.inl .p0) J e1 J) J<|AM.qv (q_move J) J<|AM.qv (q_move J) J<|AM.qv (q_subw J J) J<|bndE h fun v4 e2 h=>AM.qv (t_index_sl J J J e2) J<|AM.qv (t_load_aptr_agg (g := MarkS.av) J J (.inl .p0) J e2 J) J<|bndE h fun v5 e3 h=>AM.callvp J J (fnb_h e3) (CoL.refl _) J<|AM.nil<|rN<|ATodo.cond J (fun hc=>?_) (fun hc=>?_)
        · refine have h := iteT hc h; tSR<|rM J J<|rM J J<|bndE h fun l6 e4 h=>ARun.qv (t_slice_sl J J (.some _ _ _ J) .none J J e4) J<|rA J J<|rN<|tS<|tSR<|rA J J<|rN<|ATodo.block<|ATodo.loopI (fun x : (List MarkS) × Int × Int=>slices_CompactFunc_Mark_Mark_b2 fnb n2 l6 x.1 x.2.1 x.2.2) (fun x σ'=>σ' = ⟨66,[(0,.sl 6 b_0 0 x.1.length),(1,.func (.func fnb_F) fnb_C),(5,I x.2.1),(6,.sl 6 b_0 n2.toNat l6.length),(7,I x.2.2)],[(b_0,aE4 x.1)]⟩) h ?_ ?_
          · exact ImpX.lq [0] J J J
          · intro x z2 σ' J2 hmk h hJ2 hA2
            obtain ⟨l10, n11, n12⟩ := x
            obtain rfl := hmk
            replace h : slices_CompactFunc_Mark_Mark_b2 fnb n2 l6 l10 n11 n12 = some z2 := h
            unfold slices_CompactFunc_Mark_Mark_b2 at h
            refine tS<|tSR<|rM J J<|rM J J<|ARun.qv (t_len_sub J) J<|ARun.qv (q_lss J J) J<|rN<|ATodo.cond_d J (fun hc=>?_) (fun hc=>?_)
            · refine have h := iteT hc h; tK<|tS<|ATodo.block<|tS<|ATodo.regionM (id := 11) (A := [0,0,0,6,14,0,0,64,224,480,1023,2047]) 12 mixed J (by kernel_rfl) (by kernel_rfl)<|AM.qv (q_move J) J<|AM.qv (q_move J) J<|AM.qv (q_move J) J<|bndE h fun v13 e5 h=>AM.qv (t_index_sub (L := n2) J J J e5) J<|AM.qv (t_load_aptr_agg (g := MarkS.av) J J (.inl .p0) J (idxS_some e5).2 J) J<|AM.qv (q_move J) J<|AM.qv (q_move J) J<|AM.qv (q_subw J J) J<|bndE h fun v14 e6 h=>AM.qv (t_index_sub (L := n2) J J J e6) J<|AM.qv (t_load_aptr_agg (g := MarkS.av) J J (.inl .p0) J (idxS_some e6).2 J) J<|bndE h fun v15 e7 h=>AM.callvp J J (fnb_h e7) (CoL.refl _) J<|AM.qv (q_not J) J<|AM.nil<|rN<|ATodo.cut (fun σ'=>∃ (l16 : List MarkS) (n17 : Int),slices_CompactFunc_Mark_Mark_j1 n12 l16 n17 = some z2 ∧ σ' = ⟨66,[(0,.sl 6 b_0 0 l16.length),(1,.func (.func fnb_F) fnb_C),(5,I n17),(6,.sl 6 b_0 n2.toNat l6.length),(7,I n12)],[(b_0,aE4 l16)]⟩) ?_ ?_
              · refine ATodo.cond J (fun hc=>?_) (fun hc=>?_)
                · exact have h := iteT hc h; tSR<|rM J J<|rM J J<|rM J J<|rM J J<|bndE h fun v18 e8 h=>ARun.qv (t_index_sub (L := n2) J J J e8) J<|ARun.qv (t_load_aptr_agg (g := MarkS.av) J J (.inl .p0) J (idxS_some e8).2 J) J<|bndE h fun v19 e9 h=>ARun.qv (t_index_sl J J J e9) J<|t_store_aptr1 (g := MarkS.av) (el' := v18) J J J J e9 J .p0 J<|ARun.ghost<|ImpX.eqs (s := 0) (av' := .sl 6 b_0 0 (l10.set n11.toNat v18).length) J (by rw [List.length_set])<|ImpX.here<|ARun.ghost<|ImpX.eqs (s := 50) (av' := .sl 6 b_0 0 (l10.set n11.toNat v18).length) J (by rw [List.length_set])<|ImpX.here<|rN<|tR<|rM J J<|ARun.qv (q_addw J J) J<|rA J J<|rN<|ATodo.stop<|ImpX.lq [0] ⟨l10.set n11.toNat v18,w64 (n11 + (1 : Int)),h,J⟩ J J
                · exact have h := iteFb hc h; tK<|ATodo.stop<|ImpX.lq [0] ⟨l10,n11,h,J⟩ J J
              · rintro σ' ⟨l16, n17, h, rfl⟩
                unfold slices_CompactFunc_Mark_Mark_j1 at h
                refine ATodo.blk<|tR<|rM J J<|ARun.qv (q_addw J J) J<|rA J J<|rN<|ATodo.stop<|?_
                obtain rfl := Option.some.inj h
                exact hJ2 _ _ J<|ImpX.lq [0] J J J
            · refine have h := iteF hc h; ATodo.exit J<|have h := outL h hA2; ?_
              unfold slices_CompactFunc_Mark_Mark_k2 at h
              refine tSR<|rM J J<|rM J J<|bndE h fun l20 e10 h=>ARun.qv (t_slice_sl J J (.some _ _ _ J) .none J J e10) J<|t_clear (g := MarkS.av) (Z := (⟨(0 : Int),[],(0 : Int),(⟨(0 : Int),(0 : Int),(0 : Int)⟩ : Version)⟩ : MarkS)) (L := n11) J J J J J J e10 .p0<|ARun.ghost<|ImpX.eqs (s := 0) (av' := .sl 6 b_0 0 (clr l10 n11 l20.length (⟨(0 : Int),[],(0 : Int),(⟨(0 : Int),(0 : Int),(0 : Int)⟩ : Version)⟩ : MarkS)).length) J (congrArg (AV.sl 6 b_0 0) (clr_len e10))<|ImpX.here<|ARun.ghost<|ImpX.eqs (s := 59) (av' := .sl 6 b_0 0 (clr l10 n11 l20.length (⟨(0 : Int),[],(0 : Int),(⟨(0 : Int),(0 : Int),(0 : Int)⟩ : Version)⟩ : MarkS)).length) J (congrArg (AV.sl 6 b_0 0) (clr_len e10))<|ImpX.here<|rN<|tSR<|rM J J<|rM J J<|bndE h fun l21 e11 h=>ARun.qv (t_slice_sl J J .none (.some _ _ _ J) J J e11) J<|rA J J<|ARun.ghost<|ImpX.takeT e11 .p0<|ImpX.here<|rN<|ATodo.ret<|have h := outL h hA1; ?_
              obtain rfl := Option.some.inj h
              exact ImpX.here ⟨_,.cons (.tmp _ _ J) .nil,_,.cons .p0 .nil,⟨b_0,J,J⟩⟩
        · refine have h := iteFb hc h; tK<|ATodo.blk<|tR<|rM J J<|ARun.qv (q_addw J J) J<|rA J J<|rN<|ATodo.stop<|?_
          obtain rfl := Option.some.inj h
          exact hJ1 _ _ J<|ImpX.lq [0] J J J
      · refine have h := iteF hc h; ATodo.exit J<|have h := outL h hA1; tSR<|rM J J<|rA J J<|rN<|ATodo.ret<|?_
        obtain rfl := Option.some.inj h
        exact ImpX.here ⟨_,.cons (.tmp _ _ J) .nil,_,.cons .p0 .nil,⟨b_0,J,J⟩⟩

theorem Stream_Marks_c [GI : GTab] {b_0 : Bk} {p0x0 : Fleetmake_Stream} {p1x0 : Campaign} {p2x0 : List DeviceS} {p3x0 : Int} {r : (List MarkS) × Fleetmake_Stream} (h : Stream_Marks p0x0 p1x0 p2x0 p3x0 = some r) : ACall Tryz.prog 10 [.ptr b_0 0,Campaign.av p1x0,lE3 p2x0,I p3x0] [(b_0,.cells [lE0 p0x0.L,I p0x0.at_])] (T1 (fun d_0=>[(b_0,.cells [lE0 r.2.L,I r.2.at_]),(d_0,aE4 r.1)]) (fun d_0=>.sl 6 d_0 0 r.1.length)) := by
  unfold Stream_Marks at h
  refine ACall.lessH ?_
  refine ACall.bodyN Tryz.func10 J Tryz.ntmps10 Tryz.results10 J J ?_
  refine tSR<|n_box J J J J fun b1=>rA J J<|rN<|tSR<|rA J J<|rN<|tSR<|rF J J J<|rL J J .p0 J J<|rA J J<|rN<|tS<|tSR<|rM J J<|rM J J<|rN<|ATodo.block<|ATodo.loopI (fun x : (List Int) × Int × (List MarkS) × Int × Int=>Stream_Marks_b1 p2x0 p3x0 x.1 x.2.1 x.2.2.1 x.2.2.2.1 x.2.2.2.2) (fun x σ'=>∃ (b10 : Bk),σ' = ⟨115,[(0,.ptr b_0 0),(2,lE3 p2x0),(9,.sl 6 b10 0 x.2.2.1.length),(10,I x.2.2.2.1),(17,I p3x0),(18,I x.2.2.2.2)],[(b_0,.cells [lE0 x.1,I x.2.1]),(b10,aE4 x.2.2.1)]⟩) h ?_ ?_
  · exact ImpX.arr (s := 9) 6 J fun b14=>ImpX.lq [2,0] ⟨b14,J⟩ J J
  · intro x z1 σ' J1 hmk h hJ1 hA1
    obtain ⟨l8, n9, l11, n12, n13⟩ := x
    obtain ⟨b10, rfl⟩ := hmk
    replace h : Stream_Marks_b1 p2x0 p3x0 l8 n9 l11 n12 n13 = some z1 := h
    unfold Stream_Marks_b1 at h
    refine tSR<|ARun.qv (q_lss J J) J<|rN<|tS<|ATodo.cond_d J (fun hc=>?_) (fun hc=>?_)
    · refine have h := iteT hc h; tK<|tS<|ATodo.block<|tSR<|rM J J<|rM J J<|n_buildSliceL (xs := ([(0 : Int),(1 : Int),(5 : Int),(10 : Int),(10 : Int)]).map I) J J J J J J<|bndE h fun v15 e1 h=>t_call0 J (Stream_Pick_c e1) (CoL.refl _) (.cons .p0 .nil) J J<|ARun.qv (q_addw J J) J<|rA J J<|rN<|tSR<|rM J J<|rM J J<|n_buildSliceL (xs := ([([100,49] : Str),([100,50] : Str),([100,51] : Str),([100,52] : Str),([100,53] : Str)]).map AV.str) J J J J J J<|bndE h fun v16 e2 h=>t_call0 J (Stream_Some_c e2) (CoL.refl _) (.cons .p0 .nil) J J<|rM J J<|bndE h fun v17 e3 h=>t_call0 J (Stream_Range_c e3) (CoL.refl _) (.cons .p0 .nil) J J<|rM J J<|n_buildSliceL (xs := ([(2 : Int),(2 : Int),(3 : Int),(4 : Int)]).map I) J J J J J J<|bndE h fun v18 e4 h=>t_call0 J (Stream_Pick_c e4) (CoL.refl _) (.cons .p0 .nil) J J<|r_callp J (whole_c J) (CoL.refl _) J<|ARun.qv (n_build J J J J J) J<|n_alloc J J J J fun b19=>n_store_ptr J J J J .p0 J J<|rN<|tS<|tS<|ATodo.cut (fun σ'=>∃ (l20 : List Int) (n21 : Int) (c22 : Bool),Stream_Marks_j1 p2x0 l11 n12 n13 v15 v16 v17 v18 l20 n21 c22 = some z1 ∧ σ' = ⟨115,[(0,.ptr b_0 0),(2,lE3 p2x0),(9,.sl 6 b10 0 l11.length),(10,I (w64 (n12 + v15.1))),(11,.ptr b19 0),(17,I p3x0),(18,I n13),(43,.bool c22)],[(b_0,.cells [lE0 l20,I n21]),(b10,aE4 l11),(b19,.cells [I (w64 (n12 + v15.1)),.str v16.1,I v17.1,I ((whole v18.1).Major),I ((whole v18.1).Minor),I ((whole v18.1).Patch)])]⟩) ?_ ?_
      · refine tR<|rM J J<|ARun.qv (t_len J) J<|ARun.qv (q_gtr J J) J<|rM J J<|ARun.guard_dt J J J (fun hc=>?_) (fun hc=>?_)
        · exact have h := iteT hc h; rM J J<|rY J J J<|bndE h fun v23 e5 h=>t_call0 J (Stream_Flip_c e5) (CoL.refl _) (.cons .p1 .nil) J J<|rY J J J<|ARun.qv (q_not J) J<|rT J J J<|rN<|ATodo.stop<|ImpX.lq [0,1,0] ⟨v23.2.L,v23.2.at_,!v23.1,h,J⟩ J J
        · exact have h := iteF hc h; rG J J J J<|rG J J J J<|rE J J J<|rN<|ATodo.stop<|ImpX.lq [1,1,0] ⟨v18.2.L,v18.2.at_,false,h,J⟩ J J
      · rintro σ' ⟨l20, n21, c22, h, rfl⟩
        unfold Stream_Marks_j1 at h
        refine ATodo.cut (fun σ'=>∃ (l24 : List Int) (n25 : Int) (q26 : Str),Stream_Marks_j2 l11 n12 n13 v15 v17 v18 l24 n25 q26 = some z1 ∧ σ' = ⟨115,[(0,.ptr b_0 0),(2,lE3 p2x0),(9,.sl 6 b10 0 l11.length),(10,I (w64 (n12 + v15.1))),(11,.ptr b19 0),(17,I p3x0),(18,I n13)],[(b_0,.cells [lE0 l24,I n25]),(b10,aE4 l11),(b19,.cells [I (w64 (n12 + v15.1)),.str q26,I v17.1,I ((whole v18.1).Major),I ((whole v18.1).Minor),I ((whole v18.1).Patch)])]⟩) ?_ ?_
        · refine ATodo.cond J (fun hc=>?_) (fun hc=>?_)
          · exact have h := iteT hc h; tR<|rM J J<|rM J J<|rM J J<|ARun.qv (t_len J) J<|bndE h fun v27 e6 h=>t_call0 J (Stream_Next_c e6) (CoL.refl _) (.cons .p0 .nil) J J<|bndE h fun v28 e7 h=>ARun.qv (t_index J J J e7 J J) J<|ARun.qv (n_field_rptr J J) J<|ARun.qv (q_load_rptr J J J) J<|rF J J J<|n_store_ptr J J J J .p2 J J<|rN<|ATodo.stop<|ImpX.lq [0,0,0] ⟨v27.2.L,v27.2.at_,v28.Key,h,J⟩ J J
          · exact have h := iteFb hc h; tK<|ATodo.stop<|ImpX.lq [0,0,0] ⟨l20,n21,v16.1,h,J⟩ J J
        · rintro σ' ⟨l24, n25, q26, h, rfl⟩
          unfold Stream_Marks_j2 at h
          refine tS<|tSR<|rM J J<|bndE h fun v29 e8 h=>t_call0 J (Stream_Flip_c e8) (CoL.refl _) (.cons .p0 .nil) J J<|ARun.qv (q_not J) J<|rN<|ATodo.cut (fun σ'=>∃ (l30 : List Int) (n31 : Int) (n32 : Int) (n33 : Int) (n34 : Int) (n35 : Int),Stream_Marks_j3 l11 n12 n13 v15 q26 l30 n31 n32 n33 n34 n35 = some z1 ∧ σ' = ⟨115,[(0,.ptr b_0 0),(2,lE3 p2x0),(9,.sl 6 b10 0 l11.length),(10,I (w64 (n12 + v15.1))),(11,.ptr b19 0),(17,I p3x0),(18,I n13)],[(b_0,.cells [lE0 l30,I n31]),(b10,aE4 l11),(b19,.cells [I (w64 (n12 + v15.1)),.str q26,I n32,I n33,I n34,I n35])]⟩) ?_ ?_
          · refine ATodo.cond J (fun hc=>?_) (fun hc=>?_)
            · refine have h := iteT hc h; tSR<|ARun.qv (n_build J J J J J) J<|n_alloc J J J J fun b36=>n_store_ptr J J J J .p0 J J<|rN<|tS<|tSR<|rM J J<|ARun.qv (t_len_sl J) J<|rM J J<|rN<|ATodo.block<|ATodo.loopI (fun x : Int × Str × Int × Int × Int × Int × Int=>Stream_Marks_b2 l11 n12 n13 v15 v18 q26 v29 x.1 x.2.1 x.2.2.1 x.2.2.2.1 x.2.2.2.2.1 x.2.2.2.2.2.1 x.2.2.2.2.2.2) (fun x σ'=>σ' = ⟨115,[(0,.ptr b_0 0),(2,lE3 p2x0),(9,.sl 6 b10 0 l11.length),(10,I (w64 (n12 + v15.1))),(11,.ptr b19 0),(12,.ptr b36 0),(17,I p3x0),(18,I n13),(57,.sl 6 b10 0 l11.length),(58,I (l11.length : Int)),(59,I x.2.2.2.2.2.2)],[(b_0,.cells [lE0 v29.2.L,I v29.2.at_]),(b10,aE4 l11),(b19,.cells [I (w64 (n12 + v15.1)),.str q26,I v17.1,I ((whole v18.1).Major),I ((whole v18.1).Minor),I ((whole v18.1).Patch)]),(b36,.cells [I x.1,.str x.2.1,I x.2.2.1,I x.2.2.2.1,I x.2.2.2.2.1,I x.2.2.2.2.2.1])]⟩) h ?_ ?_
              · exact ImpX.lq [1,1,1,0] J J J
              · intro x z2 σ' J2 hmk h hJ2 hA2
                obtain ⟨n44, q45, n46, n47, n48, n49, n50⟩ := x
                obtain rfl := hmk
                replace h : Stream_Marks_b2 l11 n12 n13 v15 v18 q26 v29 n44 q45 n46 n47 n48 n49 n50 = some z2 := h
                unfold Stream_Marks_b2 at h
                refine tSR<|ARun.qv (q_lss J J) J<|rN<|tS<|ATodo.cond_d J (fun hc=>?_) (fun hc=>?_)
                · refine have h := iteT hc h; tK<|tS<|ATodo.block<|tSR<|bndE h fun v51 e9 h=>ARun.qv (t_index_sl J J J e9) J<|ARun.qv (t_load_aptr_agg (g := MarkS.av) J J (.inl .p1) J e9 J) J<|n_alloc J J J J fun b52=>n_store_ptr J J J J .p0 J J<|rN<|tSR<|rF J J J<|rL J J .p0 J J<|rF J J J<|rL J J .p3 J J<|ARun.qv (q_seq J J) J<|rN<|ATodo.cut (fun σ'=>∃ (n53 : Int) (q54 : Str) (n55 : Int) (n56 : Int) (n57 : Int) (n58 : Int),Stream_Marks_j4 n50 n53 q54 n55 n56 n57 n58 = some z2 ∧ σ' = ⟨115,[(0,.ptr b_0 0),(2,lE3 p2x0),(9,.sl 6 b10 0 l11.length),(10,I (w64 (n12 + v15.1))),(11,.ptr b19 0),(12,.ptr b36 0),(17,I p3x0),(18,I n13),(57,.sl 6 b10 0 l11.length),(58,I (l11.length : Int)),(59,I n50)],[(b_0,.cells [lE0 v29.2.L,I v29.2.at_]),(b10,aE4 l11),(b19,.cells [I (w64 (n12 + v15.1)),.str q26,I v17.1,I ((whole v18.1).Major),I ((whole v18.1).Minor),I ((whole v18.1).Patch)]),(b36,.cells [I n53,.str q54,I n55,I n56,I n57,I n58])]⟩) ?_ ?_
                  · refine ATodo.cond_d J (fun hc=>?_) (fun hc=>?_)
                    · exact have h := iteT hc h; tR<|ARun.qv (q_load_ptr_all J J .p0 J) J<|n_store_ptr J J J J .p4 J J<|rN<|ATodo.stop<|ImpX.lq [1,1,1,1] ⟨v51.At,v51.Device,v51.Kind,v51.Version.Major,v51.Version.Minor,v51.Version.Patch,h,J⟩ J J
                    · exact have h := iteF hc h; tK<|ATodo.stop<|ImpX.lq [1,1,1,1] ⟨n44,q45,n46,n47,n48,n49,h,J⟩ J J
                  · rintro σ' ⟨n53, q54, n55, n56, n57, n58, h, rfl⟩
                    unfold Stream_Marks_j4 at h
                    refine ATodo.blk<|tR<|ARun.qv (q_addw J J) J<|rM J J<|rN<|ATodo.stop<|?_
                    obtain rfl := Option.some.inj h
                    exact hJ2 _ _ J<|ImpX.lq [0,0,0,0] J J J
                · refine have h := iteF hc h; ATodo.exit J<|have h := outL h hA2; ?_
                  unfold Stream_Marks_k7 at h
                  refine tSR<|rF J J J<|rL J J .p3 J J<|rN<|ATodo.block<|tSR<|ARun.qv (q_eql J J) J<|rA J J<|rN<|ATodo.cut (fun σ'=>∃ (l59 : List Int) (n60 : Int) (n61 : Int) (n62 : Int) (n63 : Int) (n64 : Int),Stream_Marks_j5 l11 n12 n13 v15 q26 l59 n60 n61 n62 n63 n64 = some z1 ∧ σ' = ⟨115,[(0,.ptr b_0 0),(2,lE3 p2x0),(9,.sl 6 b10 0 l11.length),(10,I (w64 (n12 + v15.1))),(11,.ptr b19 0),(17,I p3x0),(18,I n13)],[(b_0,.cells [lE0 l59,I n60]),(b10,aE4 l11),(b19,.cells [I (w64 (n12 + v15.1)),.str q26,I n61,I n62,I n63,I n64])]⟩) ?_ ?_
                  · refine ATodo.cond_d J (fun hc=>?_) (fun hc=>?_)
                    · refine have h := iteT hc h; bndE h fun v65 e10 h=>ATodo.regionT (id := 20) (A := [0,0,3,0,8,7,39,127,255]) (H0 := [(b_0,.cells [lE0 v29.2.L,I v29.2.at_]),(b19,.cells [I (w64 (n12 + v15.1)),.str q26,I v17.1,I ((whole v18.1).Major),I ((whole v18.1).Minor),I ((whole v18.1).Patch)])]) (HH := fun β=>[(b_0,.cells [lE0 v65.2.L,I v65.2.at_]),(b19,.cells [I (w64 (n12 + v15.1)),.str q26,I v65.1,I ((whole v18.1).Major),I ((whole v18.1).Minor),I ((whole v18.1).Patch)]),(b10,aE4 l11),(b36,.cells [I n44,.str q45,I n46,I n47,I n48,I n49])]) 7 mixed J (by kernel_rfl) (by kernel_rfl) [⟨none,some 2,[],fun _=>(b_0,.cells [lE0 v29.2.L,I v29.2.at_]),none,[]⟩,⟨none,some 6,[],fun _=>(b19,.cells [I (w64 (n12 + v15.1)),.str q26,I v17.1,I ((whole v18.1).Major),I ((whole v18.1).Minor),I ((whole v18.1).Patch)]),none,[]⟩,⟨some 2,none,[],fun _=>(b_0,.cells [lE0 v65.2.L,I v65.2.at_]),none,[]⟩,⟨some 6,none,[],fun _=>(b19,.cells [I (w64 (n12 + v15.1)),.str q26,I v65.1,I ((whole v18.1).Major),I ((whole v18.1).Minor),I ((whole v18.1).Patch)]),none,[]⟩] [] J (by kernel_rfl) J (.cons .p0 (.cons .p1 .nil)) (fun _=>J)<|AT.am 2 J J<|AM.qv (q_move J) J<|AM.buildSliceL (xs := ([(2 : Int),(2 : Int),(2 : Int),(5 : Int)]).map I) J J J J J J<|AM.nil<|AT.runS (av := I v65.1) (Ti := [(b_0,.cells [lE0 v29.2.L,I v29.2.at_])]) (Pi := [(b_0,.cells [lE0 v65.2.L,I v65.2.at_])]) (fun _=>J) (fun _=>J) (fun _=>J) J J J ?_ ?_
                      · exact t_call0 J (Stream_Pick_c e10) (CoL.refl _) (.cons .p0 .nil) J J<|ARun.nil ⟨_,J,J⟩
                      refine AT.am 3 J J<|AM.qv (n_field_ptr J J) J<|AM.qv (n_load_ptr_part J J .p1 J J) J<|AM.qv (n_field_ptr J J) J<|AM.nil<|AT.run0 (Ti := [(b19,.cells [I (w64 (n12 + v15.1)),.str q26,I v17.1,I ((whole v18.1).Major),I ((whole v18.1).Minor),I ((whole v18.1).Patch)])]) (Pi := [(b19,.cells [I (w64 (n12 + v15.1)),.str q26,I v65.1,I ((whole v18.1).Major),I ((whole v18.1).Minor),I ((whole v18.1).Patch)])]) (fun _=>J) (fun _=>J) (fun _=>J) J J ?_ ?_
                      · exact n_store_ptr J J J J .p0 J J<|ARun.nil ⟨_,J⟩
                      exact AT.nilN (fun _=>J) fun β=>rF J J J<|n_store_ptr J J J J .p1 J J<|rN<|ATodo.stop<|ImpX.lq [0,1,0] ⟨v65.2.L,v65.2.at_,v65.1,n47,n48,n49,h,J⟩ J J
                    · refine have h := iteF hc h; tSR<|ARun.qv (q_eql J J) J<|rA J J<|rN<|ATodo.cut (fun σ'=>∃ (l66 : List Int) (n67 : Int) (n68 : Int) (n69 : Int) (n70 : Int) (n71 : Int),Stream_Marks_j6 l11 n12 n13 v15 q26 l66 n67 n68 n69 n70 n71 = some z1 ∧ σ' = ⟨115,[(0,.ptr b_0 0),(2,lE3 p2x0),(9,.sl 6 b10 0 l11.length),(10,I (w64 (n12 + v15.1))),(11,.ptr b19 0),(17,I p3x0),(18,I n13)],[(b_0,.cells [lE0 l66,I n67]),(b10,aE4 l11),(b19,.cells [I (w64 (n12 + v15.1)),.str q26,I n68,I n69,I n70,I n71])]⟩) ?_ ?_
                      · refine ATodo.cond_d J (fun hc=>?_) (fun hc=>?_)
                        · refine have h := iteT hc h; bndE h fun v72 e11 h=>ATodo.regionT (id := 22) (A := [0,0,3,0,8,7,39,127,255]) (H0 := [(b_0,.cells [lE0 v29.2.L,I v29.2.at_]),(b19,.cells [I (w64 (n12 + v15.1)),.str q26,I v17.1,I ((whole v18.1).Major),I ((whole v18.1).Minor),I ((whole v18.1).Patch)])]) (HH := fun β=>[(b_0,.cells [lE0 v72.2.L,I v72.2.at_]),(b19,.cells [I (w64 (n12 + v15.1)),.str q26,I v72.1,I ((whole v18.1).Major),I ((whole v18.1).Minor),I ((whole v18.1).Patch)]),(b10,aE4 l11),(b36,.cells [I n44,.str q45,I n46,I n47,I n48,I n49])]) 7 mixed J (by kernel_rfl) (by kernel_rfl) [⟨none,some 2,[],fun _=>(b_0,.cells [lE0 v29.2.L,I v29.2.at_]),none,[]⟩,⟨none,some 6,[],fun _=>(b19,.cells [I (w64 (n12 + v15.1)),.str q26,I v17.1,I ((whole v18.1).Major),I ((whole v18.1).Minor),I ((whole v18.1).Patch)]),none,[]⟩,⟨some 2,none,[],fun _=>(b_0,.cells [lE0 v72.2.L,I v72.2.at_]),none,[]⟩,⟨some 6,none,[],fun _=>(b19,.cells [I (w64 (n12 + v15.1)),.str q26,I v72.1,I ((whole v18.1).Major),I ((whole v18.1).Minor),I ((whole v18.1).Patch)]),none,[]⟩] [] J (by kernel_rfl) J (.cons .p0 (.cons .p1 .nil)) (fun _=>J)<|AT.am 2 J J<|AM.qv (q_move J) J<|AM.buildSliceL (xs := ([(3 : Int),(3 : Int),(4 : Int)]).map I) J J J J J J<|AM.nil<|AT.runS (av := I v72.1) (Ti := [(b_0,.cells [lE0 v29.2.L,I v29.2.at_])]) (Pi := [(b_0,.cells [lE0 v72.2.L,I v72.2.at_])]) (fun _=>J) (fun _=>J) (fun _=>J) J J J ?_ ?_
                          · exact t_call0 J (Stream_Pick_c e11) (CoL.refl _) (.cons .p0 .nil) J J<|ARun.nil ⟨_,J,J⟩
                          refine AT.am 3 J J<|AM.qv (n_field_ptr J J) J<|AM.qv (n_load_ptr_part J J .p1 J J) J<|AM.qv (n_field_ptr J J) J<|AM.nil<|AT.run0 (Ti := [(b19,.cells [I (w64 (n12 + v15.1)),.str q26,I v17.1,I ((whole v18.1).Major),I ((whole v18.1).Minor),I ((whole v18.1).Patch)])]) (Pi := [(b19,.cells [I (w64 (n12 + v15.1)),.str q26,I v72.1,I ((whole v18.1).Major),I ((whole v18.1).Minor),I ((whole v18.1).Patch)])]) (fun _=>J) (fun _=>J) (fun _=>J) J J ?_ ?_
                          · exact n_store_ptr J J J J .p0 J J<|ARun.nil ⟨_,J⟩
                          exact AT.nilN (fun _=>J) fun β=>rF J J J<|n_store_ptr J J J J .p1 J J<|rN<|ATodo.stop<|ImpX.lq [0,1,0] ⟨v72.2.L,v72.2.at_,v72.1,n47,n48,n49,h,J⟩ J J
                        · exact have h := iteF hc h; tR<|rF J J J<|n_store_ptr J J J J .p2 J J<|rN<|ATodo.stop<|ImpX.lq [0,0,0] ⟨v29.2.L,v29.2.at_,(1 : Int),(whole v18.1).Major,(whole v18.1).Minor,(whole v18.1).Patch,h,J⟩ J J
                      · rintro σ' ⟨l66, n67, n68, n69, n70, n71, h, rfl⟩
                        unfold Stream_Marks_j6 at h
                        exact ATodo.stop<|ImpX.lq [0,0,0] ⟨l66,n67,n68,n69,n70,n71,h,J⟩ J J
                  · rintro σ' ⟨l59, n60, n61, n62, n63, n64, h, rfl⟩
                    unfold Stream_Marks_j5 at h
                    exact ATodo.blk<|ATodo.stop<|ImpX.lq [0,0,0] ⟨l59,n60,n61,n62,n63,n64,h,J⟩ J J
            · exact have h := iteFb hc h; tK<|ATodo.stop<|ImpX.lq [0,0,0] ⟨v29.2.L,v29.2.at_,v17.1,(whole v18.1).Major,(whole v18.1).Minor,(whole v18.1).Patch,h,J⟩ J J
          · rintro σ' ⟨l30, n31, n32, n33, n34, n35, h, rfl⟩
            unfold Stream_Marks_j3 at h
            refine tS<|tSR<|rM J J<|bndE h fun v73 e12 h=>t_call0 J (Stream_Flip_c e12) (CoL.refl _) (.cons .p0 .nil) J J<|rN<|ATodo.cut (fun σ'=>∃ (l74 : List Int) (n75 : Int) (n76 : Int) (q77 : Str) (n78 : Int),Stream_Marks_j8 l11 n12 n13 v15 n33 n34 n35 l74 n75 n76 q77 n78 = some z1 ∧ σ' = ⟨115,[(0,.ptr b_0 0),(2,lE3 p2x0),(9,.sl 6 b10 0 l11.length),(10,I (w64 (n12 + v15.1))),(11,.ptr b19 0),(17,I p3x0),(18,I n13)],[(b_0,.cells [lE0 l74,I n75]),(b10,aE4 l11),(b19,.cells [I n76,.str q77,I n78,I n33,I n34,I n35])]⟩) ?_ ?_
            · refine ATodo.cond J (fun hc=>?_) (fun hc=>?_)
              · exact have h := iteT hc h; tR<|rM J J<|bndE h fun v79 e13 h=>t_call0 J (Stream_Odd_c e13) (CoL.refl _) (.cons .p0 .nil) J J<|rM J J<|n_buildSliceL (xs := ([([100,49] : Str),([] : Str)]).map AV.str) J J J J J J<|bndE h fun v80 e14 h=>t_call0 J (Stream_Some_c e14) (CoL.refl _) (.cons .p0 .nil) J J<|rM J J<|bndE h fun v81 e15 h=>t_call0 J (Stream_Odd_c e15) (CoL.refl _) (.cons .p0 .nil) J J<|rF J J J<|n_store_ptr J J J J .p2 J J<|rF J J J<|n_store_ptr J J J J .p2 J J<|rF J J J<|n_store_ptr J J J J .p2 J J<|rN<|ATodo.stop<|ImpX.lq [0,0,0] ⟨v81.2.L,v81.2.at_,v79.1,v80.1,v81.1,h,J⟩ J J
              · exact have h := iteFb hc h; tK<|ATodo.stop<|ImpX.lq [0,0,0] ⟨v73.2.L,v73.2.at_,w64 (n12 + v15.1),q26,n32,h,J⟩ J J
            · rintro σ' ⟨l74, n75, n76, q77, n78, h, rfl⟩
              unfold Stream_Marks_j8 at h
              refine tR<|rM J J<|ARun.qv (q_load_ptr_all J J .p2 J) J<|n_buildSliceL (xs := ([(⟨n76,q77,n78,(⟨n33,n34,n35⟩ : Version)⟩ : MarkS)]).map MarkS.av) J J J J J J<|bndE h fun l82 e16 h=>t_append (g := MarkS.av) J J J J J J J J (.list _) e16 (fun _=>.p1) J fun b83=>rA J J<|rN<|ATodo.blk<|tR<|ARun.qv (q_addw J J) J<|rM J J<|rN<|ATodo.stop<|?_
              obtain rfl := Option.some.inj h
              exact hJ1 _ _ J<|ImpX.lq [0,0] ⟨b83,J⟩ J J
    · refine have h := iteF hc h; ATodo.exit J<|have h := outL h hA1; ?_
      unfold Stream_Marks_k9 at h
      refine tSR<|rM J J<|bndE h fun v84 e17 h=>t_call0 J (slices_SortStableFunc_Mark_Mark_c (fun e=>Q_MarkOrder_c (Option.some.inj e)) (lenOk_f e17)) (CoL.refl _) (.cons .p1 .nil) J J<|ARun.ghost<|ImpX.eqs (s := 9) (av' := .sl 6 b10 0 v84.length) J (congrArg (AV.sl 6 b10 0) (lenOk_l e17))<|ImpX.here<|ARun.ghost<|ImpX.eqs (s := 108) (av' := .sl 6 b10 0 v84.length) J (congrArg (AV.sl 6 b10 0) (lenOk_l e17))<|ImpX.here<|rN<|tS<|tSR<|rM J J<|bndE h fun v85 e18 h=>t_call0 J (Stream_Flip_c e18) (CoL.refl _) (.cons .p1 .nil) J J<|rN<|ATodo.cond J (fun hc=>?_) (fun hc=>?_)
      · refine have h := iteT hc h; tSR<|rM J J<|rA J J<|rN<|ATodo.ret<|?_
        obtain rfl := Option.some.inj h
        exact ImpX.here ⟨_,.cons (.tmp _ _ J) .nil,_,.cons .p0 (.cons .p0 .nil),⟨b10,J,J⟩⟩
      · refine have h := iteFb hc h; tK<|tSR<|rM J J<|bndE h fun v86 e19 h=>t_call1 J (slices_CompactFunc_Mark_Mark_c (fun e=>Stream_Marks_1x_c (Option.some.inj e)) e19) (CoL.refl _) (.cons .p1 .nil) (fun _=>J) J fun b87=>rA J J<|rN<|ATodo.ret<|?_
        obtain rfl := Option.some.inj h
        exact ImpX.here ⟨_,.cons (.tmp _ _ J) .nil,_,.cons .p1 (.cons .p0 .nil),⟨b87,J,J⟩⟩

theorem base_Key_c [GI : GTab] {p0x0 : Str} {r : Bool} (h : base_Key p0x0 = some r) : Pu Tryz.prog 117 [.str p0x0] (.bool r) := by
  unfold base_Key at h
  refine ACall.bodyN Tryz.func117 J Tryz.ntmps117 Tryz.results117 J J ?_
  refine tSR<|rA J J<|rN<|tS<|tS<|ATodo.cut (fun σ'=>∃ (c1 : Bool),base_Key_j1 p0x0 c1 = some r ∧ σ' = ⟨54,[(0,.str p0x0),(21,.bool c1)],[]⟩) ?_ ?_
  · refine tR<|rM J J<|ARun.qv (q_seq J J) J<|rM J J<|ARun.guard_df J J J (fun hc=>?_) (fun hc=>?_)
    · refine have h := iteF hc h; rM J J<|rY J J J<|ARun.qv (q_len_str J) J<|rY J J J<|ARun.qv (q_gtr J J) J<|rE J J J<|rM J J<|ARun.guard_df J J J (fun hc=>?_) (fun hc=>?_)
      · refine have h := iteF hc h; rM J J<|rY J J J<|bndE h fun c2 e1 h=>ARun.qv (t_index_str J J e1) J<|rY J J J<|ARun.qv (q_lss J J) J<|rE J J J<|rM J J<|ARun.guard_df J J J (fun hc=>?_) (fun hc=>?_)
        · exact have h := iteF hc h; rM J J<|rY J J J<|bndE h fun c3 e2 h=>ARun.qv (t_index_str J J e2) J<|rY J J J<|ARun.qv (q_gtr J J) J<|rE J J J<|rN<|ATodo.stop<|ImpX.lq [] ⟨decide ((122 : Int) < (c3.toNat : Int)),h,J⟩ J J
        · exact have h := iteT hc h; rG J J J J<|rG J J J J<|rT J J J<|rN<|ATodo.stop<|ImpX.lq [] ⟨true,h,J⟩ J J
      · exact have h := iteT hc h; rG J J J J<|rG J J J J<|rT J J J<|rM J J<|rG J J J J<|rG J J J J<|rG J J J J<|rT J J J<|rN<|ATodo.stop<|ImpX.lq [] ⟨true,h,J⟩ J J
    · exact have h := iteT hc h; rG J J J J<|rG J J J J<|rT J J J<|rM J J<|rG J J J J<|rG J J J J<|rG J J J J<|rT J J J<|rM J J<|rG J J J J<|rG J J J J<|rG J J J J<|rT J J J<|rN<|ATodo.stop<|ImpX.lq [] ⟨true,h,J⟩ J J
  · rintro σ' ⟨c1, h, rfl⟩
    unfold base_Key_j1 at h
    refine ATodo.cond J (fun hc=>?_) (fun hc=>?_)
    · refine have h := iteT hc h; tSR<|rA J J<|rN<|ATodo.ret<|?_
      obtain rfl := Option.some.inj h
      exact ImpX.here ⟨_,.cons (.tmp _ _ J) .nil,J⟩
    · refine have h := iteFb hc h; tK<|tS<|tSR<|rM J J<|ARun.qv (q_len_str J) J<|rM J J<|rN<|ATodo.block<|ATodo.loopI (fun x : Int=>base_Key_b1 p0x0 x) (fun x σ'=>σ' = ⟨54,[(0,.str p0x0),(23,I (p0x0.length : Int)),(24,I x)],[]⟩) h ?_ ?_
      · exact ImpX.lq [] J J J
      · intro n5 z1 σ' J1 hmk h hJ1 hA1
        obtain rfl := hmk
        replace h : base_Key_b1 p0x0 n5 = some z1 := h
        unfold base_Key_b1 at h
        refine tSR<|ARun.qv (q_lss J J) J<|rN<|tS<|ATodo.cond_d J (fun hc=>?_) (fun hc=>?_)
        · refine have h := iteT hc h; tK<|tS<|ATodo.block<|tSR<|rM J J<|rA J J<|rN<|tSR<|rM J J<|rM J J<|bndE h fun c6 e3 h=>ARun.qv (t_index_str J J e3) J<|rA J J<|rN<|tS<|ATodo.cut (fun σ'=>∃ (c7 : Bool),base_Key_j2 n5 c7 = some z1 ∧ σ' = ⟨54,[(0,.str p0x0),(23,I (p0x0.length : Int)),(24,I n5),(52,.bool c7)],[]⟩) ?_ ?_
          · refine tR<|rM J J<|ARun.qv (q_geq J J) J<|rM J J<|ARun.guard_dt J J J (fun hc=>?_) (fun hc=>?_)
            · rw [if_pos hc] at h
              refine rM J J<|rY J J J<|ARun.qv (q_leq J J) J<|rT J J J<|rM J J<|ARun.guard_df J J J (fun hc=>?_) (fun hc=>?_)
              · rw [if_neg hc] at h
                refine rM J J<|rY J J J<|ARun.qv (q_geq J J) J<|rY J J J<|rM J J<|ARun.guard_dt J J J (fun hc=>?_) (fun hc=>?_)
                · rw [if_pos hc] at h
                  refine rM J J<|rY J J J<|ARun.qv (q_leq J J) J<|rY J J J<|rT J J J<|rE J J J<|rM J J<|ARun.guard_df J J J (fun hc=>?_) (fun hc=>?_)
                  · rw [if_neg hc] at h
                    refine rM J J<|rY J J J<|ARun.qv (q_eql J J) J<|rE J J J<|rM J J<|ARun.guard_df J J J (fun hc=>?_) (fun hc=>?_)
                    · rw [if_neg hc] at h
                      exact rM J J<|rY J J J<|ARun.qv (q_eql J J) J<|rE J J J<|ARun.qv (q_not_d J) J<|rN<|ATodo.stop<|ImpX.lq [] ⟨decide (¬ ((c6.toNat : Int) = (95 : Int))),h,J⟩ J J
                    · rw [if_pos hc] at h
                      exact rG J J J J<|rT J J J<|ARun.qv (q_not J) J<|rN<|ATodo.stop<|ImpX.lq [] ⟨!true,h,J⟩ J J
                  · rw [if_pos hc] at h
                    exact rG J J J J<|rT J J J<|rM J J<|rG J J J J<|rG J J J J<|rT J J J<|ARun.qv (q_not J) J<|rN<|ATodo.stop<|ImpX.lq [] ⟨!true,h,J⟩ J J
                · rw [if_neg hc] at h
                  refine rG J J J J<|rY J J J<|rE J J J<|rE J J J<|rM J J<|rY J J J<|rM J J<|rY J J J<|ARun.qv (q_eql J J) J<|rE J J J<|rM J J<|ARun.guard_df J J J (fun hc=>?_) (fun hc=>?_)
                  · rw [if_neg hc] at h
                    exact rM J J<|rY J J J<|ARun.qv (q_eql J J) J<|rE J J J<|ARun.qv (q_not_d J) J<|rN<|ATodo.stop<|ImpX.lq [] ⟨decide (¬ ((c6.toNat : Int) = (95 : Int))),h,J⟩ J J
                  · rw [if_pos hc] at h
                    exact rG J J J J<|rT J J J<|ARun.qv (q_not J) J<|rN<|ATodo.stop<|ImpX.lq [] ⟨!true,h,J⟩ J J
              · rw [if_pos hc] at h
                exact rG J J J J<|rG J J J J<|ARun.guard_und J J J<|ARun.guard_und J J J<|rG J J J J<|rT J J J<|rM J J<|rG J J J J<|rG J J J J<|rT J J J<|rM J J<|rG J J J J<|rG J J J J<|rT J J J<|ARun.qv (q_not J) J<|rN<|ATodo.stop<|ImpX.lq [] ⟨!true,h,J⟩ J J
            · rw [if_neg hc] at h
              refine rG J J J J<|rE J J J<|rM J J<|rY J J J<|rM J J<|rY J J J<|ARun.qv (q_geq J J) J<|rY J J J<|rM J J<|ARun.guard_dt J J J (fun hc=>?_) (fun hc=>?_)
              · rw [if_pos hc] at h
                refine rM J J<|rY J J J<|ARun.qv (q_leq J J) J<|rY J J J<|rT J J J<|rE J J J<|rM J J<|ARun.guard_df J J J (fun hc=>?_) (fun hc=>?_)
                · rw [if_neg hc] at h
                  refine rM J J<|rY J J J<|ARun.qv (q_eql J J) J<|rE J J J<|rM J J<|ARun.guard_df J J J (fun hc=>?_) (fun hc=>?_)
                  · rw [if_neg hc] at h
                    exact rM J J<|rY J J J<|ARun.qv (q_eql J J) J<|rE J J J<|ARun.qv (q_not_d J) J<|rN<|ATodo.stop<|ImpX.lq [] ⟨decide (¬ ((c6.toNat : Int) = (95 : Int))),h,J⟩ J J
                  · rw [if_pos hc] at h
                    exact rG J J J J<|rT J J J<|ARun.qv (q_not J) J<|rN<|ATodo.stop<|ImpX.lq [] ⟨!true,h,J⟩ J J
                · rw [if_pos hc] at h
                  exact rG J J J J<|rT J J J<|rM J J<|rG J J J J<|rG J J J J<|rT J J J<|ARun.qv (q_not J) J<|rN<|ATodo.stop<|ImpX.lq [] ⟨!true,h,J⟩ J J
              · rw [if_neg hc] at h
                refine rG J J J J<|rY J J J<|rE J J J<|rE J J J<|rM J J<|rY J J J<|rM J J<|rY J J J<|ARun.qv (q_eql J J) J<|rE J J J<|rM J J<|ARun.guard_df J J J (fun hc=>?_) (fun hc=>?_)
                · rw [if_neg hc] at h
                  exact rM J J<|rY J J J<|ARun.qv (q_eql J J) J<|rE J J J<|ARun.qv (q_not_d J) J<|rN<|ATodo.stop<|ImpX.lq [] ⟨decide (¬ ((c6.toNat : Int) = (95 : Int))),h,J⟩ J J
                · rw [if_pos hc] at h
                  exact rG J J J J<|rT J J J<|ARun.qv (q_not J) J<|rN<|ATodo.stop<|ImpX.lq [] ⟨!true,h,J⟩ J J
          · rintro σ' ⟨c7, h, rfl⟩
            unfold base_Key_j2 at h
            refine ATodo.cond J (fun hc=>?_) (fun hc=>?_)
            · refine have h := iteT hc h; tSR<|rA J J<|rN<|ATodo.ret<|have h := outL h hA1; ?_
              obtain rfl := Option.some.inj h
              exact ImpX.here ⟨_,.cons (.tmp _ _ J) .nil,J⟩
            · refine have h := iteFb hc h; tK<|ATodo.blk<|tR<|ARun.qv (q_addw J J) J<|rM J J<|rN<|ATodo.stop<|?_
              obtain rfl := Option.some.inj h
              exact hJ1 _ _ J<|ImpX.lq [] J J J
        · refine have h := iteF hc h; ATodo.exit J<|have h := outL h hA1; tSR<|rA J J<|rN<|ATodo.ret<|?_
          obtain rfl := Option.some.inj h
          exact ImpX.here ⟨_,.cons (.tmp _ _ J) .nil,J⟩

theorem base_Out_c [GI : GTab] {p0x0 : Int} {p1x0 : Int} {p2x0 : Int} {r : Bool} (h : base_Out p0x0 p1x0 p2x0 = r) : Pu Tryz.prog 92 [I p0x0,I p1x0,I p2x0] (.bool r) := by
  unfold base_Out at h
  refine ACall.bodyN Tryz.func92 J Tryz.ntmps92 Tryz.results92 J J ?_
  refine tSR<|rA J J<|rN<|tS<|ATodo.cut (fun σ'=>∃ (c1 : Bool),base_Out_j1 c1 = r ∧ σ' = ⟨15,[(6,.bool c1)],[]⟩) ?_ ?_
  · refine tR<|rM J J<|rM J J<|ARun.qv (q_lss J J) J<|rM J J<|ARun.guard_df J J J (fun hc=>?_) (fun hc=>?_)
    · rw [orFd hc] at h
      exact rM J J<|rY J J J<|rM J J<|rY J J J<|ARun.qv (q_gtr J J) J<|rE J J J<|rA J J<|rN<|ATodo.stop<|ImpX.lq [] ⟨decide (p2x0 < p0x0),h,J⟩ J J
    · rw [orTd hc] at h
      exact rG J J J J<|rG J J J J<|rT J J J<|rA J J<|rN<|ATodo.stop<|ImpX.lq [] ⟨true,h,J⟩ J J
  · rintro σ' ⟨c1, h, rfl⟩
    unfold base_Out_j1 at h
    refine ATodo.ret<|?_
    obtain rfl := h
    exact ImpX.here ⟨_,.cons (.tmp _ _ J) .nil,J⟩

theorem base_Version_c [GI : GTab] {p0x0 : Version} {r : Bool} (h : base_Version p0x0 = r) : Pu Tryz.prog 111 [Version.av p0x0] (.bool r) := by
  unfold base_Version at h
  refine ACall.bodyN Tryz.func111 J Tryz.ntmps111 Tryz.results111 J J ?_
  refine tSR<|n_box J J J J fun b1=>rA J J<|rN<|tS<|ATodo.cut (fun σ'=>∃ (c2 : Bool),base_Version_j1 c2 = r ∧ σ' = ⟨19,[(2,.bool c2)],[]⟩) ?_ ?_
  · refine tR<|rF J J J<|rL J J .p0 J J<|r_callp J (base_Out_c J) (CoL.refl _) J<|ARun.qv (q_not J) J<|rM J J<|ARun.guard J J J (fun hc=>?_) (fun hc=>?_)
    · rw [andTb hc] at h
      refine rF J J J<|rY J J J<|rL J J .p0 J J<|rY J J J<|r_callp J (base_Out_c J) (CoL.refl _) J<|rY J J J<|ARun.qv (q_not J) J<|rT J J J<|rM J J<|ARun.guard J J J (fun hc=>?_) (fun hc=>?_)
      · rw [andTb hc] at h
        exact rF J J J<|rY J J J<|rL J J .p0 J J<|rY J J J<|r_callp J (base_Out_c J) (CoL.refl _) J<|rY J J J<|ARun.qv (q_not J) J<|rT J J J<|rA J J<|rN<|ATodo.stop<|ImpX.lq [] ⟨!(base_Out p0x0.Patch (0 : Int) (9999 : Int)),h,J⟩ J J
      · rw [andFb hc] at h
        exact rG J J J J<|rG J J J J<|rG J J J J<|rE J J J<|rA J J<|rN<|ATodo.stop<|ImpX.lq [] ⟨false,h,J⟩ J J
    · rw [andFb hc] at h
      exact rG J J J J<|rG J J J J<|rG J J J J<|rE J J J<|rM J J<|rG J J J J<|rG J J J J<|rG J J J J<|rG J J J J<|rE J J J<|rA J J<|rN<|ATodo.stop<|ImpX.lq [] ⟨false,h,J⟩ J J
  · rintro σ' ⟨c2, h, rfl⟩
    unfold base_Version_j1 at h
    refine ATodo.ret<|?_
    obtain rfl := h
    exact ImpX.here ⟨_,.cons (.tmp _ _ J) .nil,J⟩

theorem base_Moment_c [GI : GTab] {p0x0 : Int} {r : Bool} (h : base_Moment p0x0 = r) : Pu Tryz.prog 104 [I p0x0] (.bool r) := by
  unfold base_Moment at h
  refine ACall.bodyN Tryz.func104 J Tryz.ntmps104 Tryz.results104 J J ?_
  refine tSR<|rA J J<|rN<|tSR<|rM J J<|r_callp J (base_Out_c J) (CoL.refl _) J<|ARun.qv (q_not J) J<|rA J J<|rN<|ATodo.ret<|?_
  obtain rfl := h
  exact ImpX.here ⟨_,.cons (.tmp _ _ J) .nil,J⟩

theorem campaign_CheckCampaign_c [GI : GTab] {p0x0 : Campaign} {r : Int} (h : campaign_CheckCampaign p0x0 = some r) : Pu Tryz.prog 75 [Campaign.av p0x0] (I r) := by
  unfold campaign_CheckCampaign at h
  refine ACall.bodyN Tryz.func75 J Tryz.ntmps75 Tryz.results75 J J ?_
  refine tSR<|n_box J J J J fun b1=>rA J J<|rN<|tS<|ATodo.block<|tSR<|rF J J J<|rL J J .p0 J J<|bndE h fun v2 e1 h=>r_callp J (base_Key_c e1) (CoL.refl _) J<|ARun.qv (q_not J) J<|rA J J<|rN<|ATodo.cond J (fun hc=>?_) (fun hc=>?_)
  · refine have h := iteT hc h; tSR<|rA J J<|rN<|ATodo.ret<|?_
    obtain rfl := Option.some.inj h
    exact ImpX.here ⟨_,.cons (.tmp _ _ J) .nil,J⟩
  · refine have h := iteFb hc h; tS<|ATodo.cut (fun σ'=>∃ (c3 : Bool),campaign_CheckCampaign_j1 p0x0 c3 = some r ∧ σ' = ⟨81,[(1,.ptr b1 0),(11,.bool c3)],[(b1,.cells (cE1 p0x0))]⟩) ?_ ?_
    · refine tR<|rF J J J<|ARun.qv (n_load_ptr_part J J .p0 J J) J<|r_callp J (base_Version_c J) (CoL.refl _) J<|ARun.qv (q_not J) J<|rM J J<|ARun.guard J J J (fun hc=>?_) (fun hc=>?_)
      · rw [orFb hc] at h
        exact rF J J J<|rY J J J<|rL J J .p0 J J<|rY J J J<|r_callp J (base_Moment_c J) (CoL.refl _) J<|rY J J J<|ARun.qv (q_not J) J<|rE J J J<|rA J J<|rN<|ATodo.stop<|ImpX.lq [0] ⟨!(base_Moment p0x0.At),h,J⟩ J J
      · rw [orTb hc] at h
        exact rG J J J J<|rG J J J J<|rG J J J J<|rT J J J<|rA J J<|rN<|ATodo.stop<|ImpX.lq [0] ⟨true,h,J⟩ J J
    · rintro σ' ⟨c3, h, rfl⟩
      unfold campaign_CheckCampaign_j1 at h
      refine ATodo.cond J (fun hc=>?_) (fun hc=>?_)
      · refine have h := iteT hc h; tSR<|rA J J<|rN<|ATodo.ret<|?_
        obtain rfl := Option.some.inj h
        exact ImpX.here ⟨_,.cons (.tmp _ _ J) .nil,J⟩
      · refine have h := iteFb hc h; tSR<|rF J J J<|rL J J .p0 J J<|ARun.qv (t_len J) J<|ARun.qv (q_eql J J) J<|rA J J<|rN<|ATodo.cond_d J (fun hc=>?_) (fun hc=>?_)
        · refine have h := iteT hc h; tSR<|rA J J<|rN<|ATodo.ret<|?_
          obtain rfl := Option.some.inj h
          exact ImpX.here ⟨_,.cons (.tmp _ _ J) .nil,J⟩
        · refine have h := iteF hc h; tSR<|rF J J J<|rL J J .p0 J J<|ARun.qv (t_len J) J<|ARun.qv (q_gtr J J) J<|rA J J<|rN<|ATodo.cond_d J (fun hc=>?_) (fun hc=>?_)
          · refine have h := iteT hc h; tSR<|rA J J<|rN<|ATodo.ret<|?_
            obtain rfl := Option.some.inj h
            exact ImpX.here ⟨_,.cons (.tmp _ _ J) .nil,J⟩
          · refine have h := iteF hc h; tK<|ATodo.blk<|tSR<|rA J J<|rN<|tS<|tSR<|rF J J J<|rL J J .p0 J J<|ARun.qv (t_len J) J<|rM J J<|rN<|ATodo.block<|ATodo.loopI (fun x : Int × Int=>campaign_CheckCampaign_b1 p0x0 x.1 x.2) (fun x σ'=>σ' = ⟨81,[(1,.ptr b1 0),(3,I x.1),(33,lE2 p0x0.Waves),(34,I (p0x0.Waves.length : Int)),(35,I x.2)],[(b1,.cells (cE1 p0x0))]⟩) h ?_ ?_
            · exact ImpX.lq [0] J J J
            · intro x z1 σ' J1 hmk h hJ1 hA1
              obtain ⟨n6, n7⟩ := x
              obtain rfl := hmk
              replace h : campaign_CheckCampaign_b1 p0x0 n6 n7 = some z1 := h
              unfold campaign_CheckCampaign_b1 at h
              refine tSR<|ARun.qv (q_lss J J) J<|rN<|tS<|ATodo.cond_d J (fun hc=>?_) (fun hc=>?_)
              · refine have h := iteT hc h; tK<|tS<|ATodo.block<|tSR<|bndE h fun v8 e2 h=>ARun.qv (t_index J J J e2 J J) J<|ARun.qv (q_load_rptr_agg J J J) J<|n_alloc J J J J fun b9=>n_store_ptr J J J J .p0 J J<|rN<|tS<|tS<|ATodo.cut (fun σ'=>∃ (c10 : Bool),campaign_CheckCampaign_j2 n6 n7 v8 c10 = some z1 ∧ σ' = ⟨81,[(1,.ptr b1 0),(3,I n6),(5,.ptr b9 0),(33,lE2 p0x0.Waves),(34,I (p0x0.Waves.length : Int)),(35,I n7),(56,.bool c10)],[(b1,.cells (cE1 p0x0)),(b9,.cells (cE2 v8))]⟩) ?_ ?_
                · refine tR<|rF J J J<|rL J J .p0 J J<|r_callp J (base_Out_c J) (CoL.refl _) J<|rM J J<|ARun.guard J J J (fun hc=>?_) (fun hc=>?_)
                  · rw [orFb hc] at h
                    refine rF J J J<|rY J J J<|rL J J .p0 J J<|rY J J J<|r_callp J (base_Out_c J) (CoL.refl _) J<|rE J J J<|rM J J<|ARun.guard J J J (fun hc=>?_) (fun hc=>?_)
                    · rw [orFb hc] at h
                      refine rF J J J<|rY J J J<|rL J J .p0 J J<|rY J J J<|r_callp J (base_Out_c J) (CoL.refl _) J<|rE J J J<|rM J J<|ARun.guard J J J (fun hc=>?_) (fun hc=>?_)
                      · rw [orFb hc] at h
                        exact rF J J J<|rY J J J<|rL J J .p0 J J<|rY J J J<|r_callp J (base_Out_c J) (CoL.refl _) J<|rE J J J<|rN<|ATodo.stop<|ImpX.lq [1,0] ⟨(base_Out v8.Fails (0 : Int) (1000 : Int)),h,J⟩ J J
                      · rw [orTb hc] at h
                        exact rG J J J J<|rG J J J J<|rT J J J<|rN<|ATodo.stop<|ImpX.lq [1,0] ⟨true,h,J⟩ J J
                    · rw [orTb hc] at h
                      exact rG J J J J<|rG J J J J<|rT J J J<|rM J J<|rG J J J J<|rG J J J J<|rG J J J J<|rT J J J<|rN<|ATodo.stop<|ImpX.lq [1,0] ⟨true,h,J⟩ J J
                  · rw [orTb hc] at h
                    exact rG J J J J<|rG J J J J<|rT J J J<|rM J J<|rG J J J J<|rG J J J J<|rG J J J J<|rT J J J<|rM J J<|rG J J J J<|rG J J J J<|rG J J J J<|rT J J J<|rN<|ATodo.stop<|ImpX.lq [1,0] ⟨true,h,J⟩ J J
                · rintro σ' ⟨c10, h, rfl⟩
                  unfold campaign_CheckCampaign_j2 at h
                  refine ATodo.cond J (fun hc=>?_) (fun hc=>?_)
                  · refine have h := iteT hc h; tSR<|rA J J<|rN<|ATodo.ret<|have h := outL h hA1; ?_
                    obtain rfl := Option.some.inj h
                    exact ImpX.here ⟨_,.cons (.tmp _ _ J) .nil,J⟩
                  · refine have h := iteFb hc h; tK<|tR<|rM J J<|rF J J J<|rL J J .p1 J J<|ARun.qv (q_addw J J) J<|rA J J<|rN<|ATodo.blk<|tR<|ARun.qv (q_addw J J) J<|rM J J<|rN<|ATodo.stop<|?_
                    obtain rfl := Option.some.inj h
                    exact hJ1 _ _ J<|ImpX.lq [0] J J J
              · refine have h := iteF hc h; ATodo.exit J<|have h := outL h hA1; ?_
                unfold campaign_CheckCampaign_k4 at h
                refine tS<|ATodo.block<|tSR<|rM J J<|ARun.qv (q_neq J J) J<|rA J J<|rN<|ATodo.cond_d J (fun hc=>?_) (fun hc=>?_)
                · refine have h := iteT hc h; tSR<|rA J J<|rN<|ATodo.ret<|?_
                  obtain rfl := Option.some.inj h
                  exact ImpX.here ⟨_,.cons (.tmp _ _ J) .nil,J⟩
                · refine have h := iteF hc h; tS<|ATodo.cut (fun σ'=>∃ (c11 : Bool),campaign_CheckCampaign_j3 c11 = some r ∧ σ' = ⟨81,[(65,.bool c11)],[]⟩) ?_ ?_
                  · refine tR<|rF J J J<|rF J J J<|rL J J .p0 J J<|r_callp J (base_Out_c J) (CoL.refl _) J<|rM J J<|ARun.guard J J J (fun hc=>?_) (fun hc=>?_)
                    · rw [orFb hc] at h
                      refine rF J J J<|rY J J J<|rF J J J<|rY J J J<|rL J J .p0 J J<|rY J J J<|r_callp J (base_Out_c J) (CoL.refl _) J<|rE J J J<|rM J J<|ARun.guard J J J (fun hc=>?_) (fun hc=>?_)
                      · rw [orFb hc] at h
                        exact rF J J J<|rY J J J<|rL J J .p0 J J<|rY J J J<|r_callp J (base_Out_c J) (CoL.refl _) J<|rE J J J<|rA J J<|rN<|ATodo.stop<|ImpX.lq [] ⟨(base_Out p0x0.Room (1 : Int) (500 : Int)),h,J⟩ J J
                      · rw [orTb hc] at h
                        exact rG J J J J<|rG J J J J<|rT J J J<|rA J J<|rN<|ATodo.stop<|ImpX.lq [] ⟨true,h,J⟩ J J
                    · rw [orTb hc] at h
                      exact rG J J J J<|rG J J J J<|rG J J J J<|rT J J J<|rM J J<|rG J J J J<|rG J J J J<|rG J J J J<|rT J J J<|rA J J<|rN<|ATodo.stop<|ImpX.lq [] ⟨true,h,J⟩ J J
                  · rintro σ' ⟨c11, h, rfl⟩
                    unfold campaign_CheckCampaign_j3 at h
                    refine ATodo.cond J (fun hc=>?_) (fun hc=>?_)
                    · refine have h := iteT hc h; tSR<|rA J J<|rN<|ATodo.ret<|?_
                      obtain rfl := Option.some.inj h
                      exact ImpX.here ⟨_,.cons (.tmp _ _ J) .nil,J⟩
                    · refine have h := iteFb hc h; tK<|ATodo.blk<|tSR<|rA J J<|rN<|ATodo.ret<|?_
                      obtain rfl := Option.some.inj h
                      exact ImpX.here ⟨_,.cons (.tmp _ _ J) .nil,J⟩

theorem campaign_CheckFleet_c [GI : GTab] {p0x0 : List DeviceS} {r : Int} (h : campaign_CheckFleet p0x0 = some r) : Pu Tryz.prog 77 [lE3 p0x0] (I r) := by
  unfold campaign_CheckFleet at h
  refine ACall.bodyN Tryz.func77 J Tryz.ntmps77 Tryz.results77 J J ?_
  refine tSR<|rA J J<|rN<|tS<|tSR<|rM J J<|ARun.qv (t_len J) J<|ARun.qv (q_gtr J J) J<|rN<|ATodo.cond_d J (fun hc=>?_) (fun hc=>?_)
  · refine have h := iteT hc h; tSR<|rA J J<|rN<|ATodo.ret<|?_
    obtain rfl := Option.some.inj h
    exact ImpX.here ⟨_,.cons (.tmp _ _ J) .nil,J⟩
  · refine have h := iteF hc h; tK<|tS<|tSR<|rM J J<|ARun.qv (t_len J) J<|rM J J<|rN<|ATodo.block<|ATodo.loopI (fun x : Int=>campaign_CheckFleet_b1 p0x0 x) (fun x σ'=>σ' = ⟨57,[(0,lE3 p0x0),(8,lE3 p0x0),(9,I (p0x0.length : Int)),(10,I x)],[]⟩) h ?_ ?_
    · exact ImpX.lq [] J J J
    · intro n2 z1 σ' J1 hmk h hJ1 hA1
      obtain rfl := hmk
      replace h : campaign_CheckFleet_b1 p0x0 n2 = some z1 := h
      unfold campaign_CheckFleet_b1 at h
      refine tSR<|ARun.qv (q_lss J J) J<|rN<|tS<|ATodo.cond_d J (fun hc=>?_) (fun hc=>?_)
      · refine have h := iteT hc h; tK<|tS<|ATodo.block<|tSR<|rM J J<|bndE h fun v3 e1 h=>ARun.qv (t_index J J J e1 J J) J<|ARun.qv (q_load_rptr_agg J J J) J<|n_alloc J J J J fun b4=>rA J J<|n_store_ptr J J J J .p0 J J<|rN<|ATodo.block<|tS<|ATodo.cut (fun σ'=>∃ (c5 : Bool),campaign_CheckFleet_j1 p0x0 n2 v3 c5 = some z1 ∧ σ' = ⟨57,[(0,lE3 p0x0),(3,I n2),(4,.ptr b4 0),(8,lE3 p0x0),(9,I (p0x0.length : Int)),(10,I n2),(15,.bool c5)],[(b4,.cells (cE3 v3))]⟩) ?_ ?_
        · refine tR<|rF J J J<|rL J J .p0 J J<|bndE h fun v6 e2 h=>r_callp J (base_Key_c e2) (CoL.refl _) J<|ARun.qv (q_not J) J<|rM J J<|ARun.guard J J J (fun hc=>?_) (fun hc=>?_)
          · refine have h := iteFb hc h; rF J J J<|rY J J J<|rL J J .p0 J J<|rY J J J<|bndE h fun v7 e3 h=>r_callp J (base_Key_c e3) (CoL.refl _) J<|rY J J J<|ARun.qv (q_not J) J<|rE J J J<|rM J J<|ARun.guard J J J (fun hc=>?_) (fun hc=>?_)
            · exact have h := iteFb hc h; rF J J J<|rY J J J<|rL J J .p0 J J<|rY J J J<|bndE h fun v8 e4 h=>r_callp J (base_Key_c e4) (CoL.refl _) J<|rY J J J<|ARun.qv (q_not J) J<|rE J J J<|rA J J<|rN<|ATodo.stop<|ImpX.lq [0] ⟨!v8,h,J⟩ J J
            · exact have h := iteT hc h; rG J J J J<|rG J J J J<|rG J J J J<|rT J J J<|rA J J<|rN<|ATodo.stop<|ImpX.lq [0] ⟨true,h,J⟩ J J
          · exact have h := iteT hc h; rG J J J J<|rG J J J J<|rG J J J J<|rT J J J<|rM J J<|rG J J J J<|rG J J J J<|rG J J J J<|rG J J J J<|rT J J J<|rA J J<|rN<|ATodo.stop<|ImpX.lq [0] ⟨true,h,J⟩ J J
        · rintro σ' ⟨c5, h, rfl⟩
          unfold campaign_CheckFleet_j1 at h
          refine ATodo.cond J (fun hc=>?_) (fun hc=>?_)
          · refine have h := iteT hc h; tSR<|rA J J<|rN<|ATodo.ret<|have h := outL h hA1; ?_
            obtain rfl := Option.some.inj h
            exact ImpX.here ⟨_,.cons (.tmp _ _ J) .nil,J⟩
          · refine have h := iteFb hc h; tS<|ATodo.cut (fun σ'=>∃ (c9 : Bool),campaign_CheckFleet_j2 n2 v3 c9 = some z1 ∧ σ' = ⟨57,[(0,lE3 p0x0),(4,.ptr b4 0),(8,lE3 p0x0),(9,I (p0x0.length : Int)),(10,I n2),(32,.bool c9)],[(b4,.cells (cE3 v3))]⟩) ?_ ?_
            · refine ATodo.regionM (id := 8) (A := [0,1,3,7,15,7,7,71,231,487,999,2047,4095,8191]) 14 mixed J (by kernel_rfl) (by kernel_rfl)<|AM.qv (q_move J) J<|AM.qv (q_gtr J J) J<|AM.qv (q_move J) J<|AM.guard_dt J J J (fun hc=>?_) (fun hc=>?_)
              · exact have h := iteT hc h; AM.qv (n_field_ptr J J) J<|AM.guard_yes J J J<|AM.qv (q_load_ptr J J .p0 J) J<|AM.guard_yes J J J<|AM.qv (q_move J) J<|AM.guard_yes J J J<|AM.qv (q_move J) J<|AM.guard_yes J J J<|AM.qv (q_subw J J) J<|AM.guard_yes J J J<|bndE h fun v10 e5 h=>AM.qv (t_index J J J e5 J J) J<|AM.guard_yes J J J<|AM.qv (n_field_rptr J J) J<|AM.guard_yes J J J<|AM.qv (q_load_rptr J J J) J<|AM.guard_yes J J J<|AM.qv (t_sleq J J) J<|AM.qv (q_pick_t J J) J<|AM.qv (q_assign J) J<|AM.nil<|rN<|ATodo.stop<|ImpX.lq [0] ⟨Op.bytesLess v3.Key v10.Key || v3.Key == v10.Key,h,J⟩ J J
              · exact have h := iteF hc h; AM.guard_no J J J J<|AM.guard_no J J J J<|AM.guard_no J J J J<|AM.guard_no J J J J<|AM.guard_no J J J J<|AM.guard_no J J J J<|AM.guard_no J J J J<|AM.guard_no J J J J<|AM.qv (q_pick_f J J) J<|AM.qv (q_assign J) J<|AM.nil<|rN<|ATodo.stop<|ImpX.lq [0] ⟨false,h,J⟩ J J
            · rintro σ' ⟨c9, h, rfl⟩
              unfold campaign_CheckFleet_j2 at h
              refine ATodo.cond J (fun hc=>?_) (fun hc=>?_)
              · refine have h := iteT hc h; tSR<|rA J J<|rN<|ATodo.ret<|have h := outL h hA1; ?_
                obtain rfl := Option.some.inj h
                exact ImpX.here ⟨_,.cons (.tmp _ _ J) .nil,J⟩
              · refine have h := iteFb hc h; tSR<|rF J J J<|ARun.qv (n_load_ptr_part J J .p0 J J) J<|r_callp J (base_Version_c J) (CoL.refl _) J<|ARun.qv (q_not J) J<|rA J J<|rN<|ATodo.cond J (fun hc=>?_) (fun hc=>?_)
                · refine have h := iteT hc h; tSR<|rA J J<|rN<|ATodo.ret<|have h := outL h hA1; ?_
                  obtain rfl := Option.some.inj h
                  exact ImpX.here ⟨_,.cons (.tmp _ _ J) .nil,J⟩
                · refine have h := iteFb hc h; tSR<|rF J J J<|rL J J .p0 J J<|ARun.qv (t_len J) J<|ARun.qv (q_gtr J J) J<|rA J J<|rN<|ATodo.cond_d J (fun hc=>?_) (fun hc=>?_)
                  · refine have h := iteT hc h; tSR<|rA J J<|rN<|ATodo.ret<|have h := outL h hA1; ?_
                    obtain rfl := Option.some.inj h
                    exact ImpX.here ⟨_,.cons (.tmp _ _ J) .nil,J⟩
                  · refine have h := iteF hc h; tK<|ATodo.blk<|ATodo.blk<|tR<|ARun.qv (q_addw J J) J<|rM J J<|rN<|ATodo.stop<|?_
                    obtain rfl := Option.some.inj h
                    exact hJ1 _ _ J<|ImpX.lq [] J J J
      · refine have h := iteF hc h; ATodo.exit J<|have h := outL h hA1; tSR<|rA J J<|rN<|ATodo.ret<|?_
        obtain rfl := Option.some.inj h
        exact ImpX.here ⟨_,.cons (.tmp _ _ J) .nil,J⟩

theorem cmp_isNaN_int_c [GI : GTab] {p0x0 : Int} {r : Bool} (h : cmp_isNaN_int p0x0 = r) : Pu Tryz.prog 157 [I p0x0] (.bool r) := by
  unfold cmp_isNaN_int at h
  refine ACall.bodyN Tryz.func157 J Tryz.ntmps157 Tryz.results157 J J ?_
  refine tSR<|rA J J<|rN<|tSR<|rM J J<|rM J J<|ARun.qv (q_neq J J) J<|rA J J<|rN<|ATodo.ret<|?_
  obtain rfl := h
  exact ImpX.here ⟨_,.cons (.tmp _ _ J) .nil,J⟩

theorem cmp_Compare_int_c [GI : GTab] {p0x0 : Int} {p1x0 : Int} {r : Int} (h : cmp_Compare_int p0x0 p1x0 = r) : Pu Tryz.prog 126 [I p0x0,I p1x0] (I r) := by
  unfold cmp_Compare_int at h
  refine ACall.bodyN Tryz.func126 J Tryz.ntmps126 Tryz.results126 J J ?_
  refine tSR<|rA J J<|rN<|tSR<|rM J J<|r_callp J (cmp_isNaN_int_c J) (CoL.refl _) J<|rA J J<|rN<|tSR<|rM J J<|r_callp J (cmp_isNaN_int_c J) (CoL.refl _) J<|rA J J<|rN<|tS<|tSR<|rM J J<|rN<|ATodo.cond J (fun hc=>?_) (fun hc=>?_)
  · refine have h := iteT hc h; tS<|tSR<|rM J J<|rN<|ATodo.cond J (fun hc=>?_) (fun hc=>?_)
    · refine have h := iteT hc h; tSR<|rA J J<|rN<|ATodo.ret<|?_
      obtain rfl := h
      exact ImpX.here ⟨_,.cons (.tmp _ _ J) .nil,J⟩
    · refine have h := iteFb hc h; tK<|tSR<|rA J J<|rN<|ATodo.ret<|?_
      obtain rfl := h
      exact ImpX.here ⟨_,.cons (.tmp _ _ J) .nil,J⟩
  · refine have h := iteFb hc h; tK<|tS<|tSR<|rM J J<|rN<|ATodo.cond J (fun hc=>?_) (fun hc=>?_)
    · refine have h := iteT hc h; tSR<|rA J J<|rN<|ATodo.ret<|?_
      obtain rfl := h
      exact ImpX.here ⟨_,.cons (.tmp _ _ J) .nil,J⟩
    · refine have h := iteFb hc h; tK<|tS<|tSR<|rM J J<|rM J J<|ARun.qv (q_lss J J) J<|rN<|ATodo.cond_d J (fun hc=>?_) (fun hc=>?_)
      · refine have h := iteT hc h; tSR<|rA J J<|rN<|ATodo.ret<|?_
        obtain rfl := h
        exact ImpX.here ⟨_,.cons (.tmp _ _ J) .nil,J⟩
      · refine have h := iteF hc h; tK<|tS<|tSR<|rM J J<|rM J J<|ARun.qv (q_gtr J J) J<|rN<|ATodo.cond_d J (fun hc=>?_) (fun hc=>?_)
        · refine have h := iteT hc h; tSR<|rA J J<|rN<|ATodo.ret<|?_
          obtain rfl := h
          exact ImpX.here ⟨_,.cons (.tmp _ _ J) .nil,J⟩
        · refine have h := iteF hc h; tK<|tSR<|rA J J<|rN<|ATodo.ret<|?_
          obtain rfl := h
          exact ImpX.here ⟨_,.cons (.tmp _ _ J) .nil,J⟩

theorem cmp_Or_int_c [GI : GTab] {p0x0 : List Int} {r : Int} (h : cmp_Or_int p0x0 = some r) : Pu Tryz.prog 125 [lE0 p0x0] (I r) := by
  unfold cmp_Or_int at h
  refine ACall.bodyN Tryz.func125 J Tryz.ntmps125 Tryz.results125 J J ?_
  refine tSR<|rA J J<|rN<|tSR<|rA J J<|rN<|tS<|tSR<|rM J J<|ARun.qv (t_len J) J<|rM J J<|rN<|ATodo.block<|ATodo.loopI (fun x : Int=>cmp_Or_int_b1 p0x0 x) (fun x σ'=>σ' = ⟨18,[(3,I (0 : Int)),(6,lE0 p0x0),(7,I (p0x0.length : Int)),(8,I x)],[]⟩) h ?_ ?_
  · exact ImpX.lq [] J J J
  · intro n2 z1 σ' J1 hmk h hJ1 hA1
    obtain rfl := hmk
    replace h : cmp_Or_int_b1 p0x0 n2 = some z1 := h
    unfold cmp_Or_int_b1 at h
    refine tSR<|ARun.qv (q_lss J J) J<|rN<|tS<|ATodo.cond_d J (fun hc=>?_) (fun hc=>?_)
    · refine have h := iteT hc h; tK<|tS<|ATodo.block<|tSR<|bndE h fun v3 e1 h=>ARun.qv (t_index J J J e1 J J) J<|ARun.qv (q_load_rptr J J J) J<|rA J J<|rN<|tSR<|rM J J<|rM J J<|ARun.qv (q_neq J J) J<|rN<|ATodo.cond_d J (fun hc=>?_) (fun hc=>?_)
      · refine have h := iteT hc h; tSR<|rM J J<|rA J J<|rN<|ATodo.ret<|have h := outL h hA1; ?_
        obtain rfl := Option.some.inj h
        exact ImpX.here ⟨_,.cons (.tmp _ _ J) .nil,J⟩
      · refine have h := iteF hc h; tK<|ATodo.blk<|tR<|ARun.qv (q_addw J J) J<|rM J J<|rN<|ATodo.stop<|?_
        obtain rfl := Option.some.inj h
        exact hJ1 _ _ J<|ImpX.lq [] J J J
    · refine have h := iteF hc h; ATodo.exit J<|have h := outL h hA1; tSR<|rM J J<|rA J J<|rN<|ATodo.ret<|?_
      obtain rfl := Option.some.inj h
      exact ImpX.here ⟨_,.cons (.tmp _ _ J) .nil,J⟩

theorem campaign_byMoment_c [GI : GTab] {p0x0 : MarkS} {p1x0 : MarkS} {r : Int} (h : campaign_byMoment p0x0 p1x0 = some r) : Pu Tryz.prog 120 [MarkS.av p0x0,MarkS.av p1x0] (I r) := by
  unfold campaign_byMoment at h
  refine ACall.bodyN Tryz.func120 J Tryz.ntmps120 Tryz.results120 J J ?_
  refine tSR<|n_box J J J J fun b1=>n_box J J J J fun b2=>rA J J<|rN<|tS<|ATodo.regionM (id := 1) (A := [0,1,0,4,15,0,32,0,128,511,1023,2047,4095]) 13 mixed J (by kernel_rfl) (by kernel_rfl)<|AM.qv (n_field_ptr J J) J<|AM.qv (q_load_ptr J J .p1 J) J<|AM.qv (n_field_ptr J J) J<|AM.qv (q_load_ptr J J .p0 J) J<|AM.callp J (cmp_Compare_int_c J) (CoL.refl _) J<|AM.qv (n_field_ptr J J) J<|AM.qv (q_load_ptr J J .p1 J) J<|AM.qv (n_field_ptr J J) J<|AM.qv (q_load_ptr J J .p0 J) J<|AM.callp J (strings_Compare_c J) (CoL.refl _) J<|AM.buildSliceL (xs := ([(cmp_Compare_int p0x0.At p1x0.At),(Lib.compareBytes p0x0.Device p1x0.Device)] : List Int).map I) J J J J J J<|bndE h fun v3 e1 h=>AM.callp J (cmp_Or_int_c e1) (CoL.refl _) J<|AM.qv (q_assign J) J<|AM.nil<|rN<|ATodo.ret<|?_
  obtain rfl := Option.some.inj h
  exact ImpX.here ⟨_,.cons (.tmp _ _ J) .nil,J⟩

theorem campaign_CheckMarks_c [GI : GTab] {p0x0 : List MarkS} {r : Int} (h : campaign_CheckMarks p0x0 = some r) : Pu Tryz.prog 78 [lE4 p0x0] (I r) := by
  unfold campaign_CheckMarks at h
  refine ACall.bodyN Tryz.func78 J Tryz.ntmps78 Tryz.results78 J J ?_
  refine tSR<|rA J J<|rN<|tS<|tSR<|rM J J<|ARun.qv (t_len J) J<|ARun.qv (q_gtr J J) J<|rN<|ATodo.cond_d J (fun hc=>?_) (fun hc=>?_)
  · refine have h := iteT hc h; tSR<|rA J J<|rN<|ATodo.ret<|?_
    obtain rfl := Option.some.inj h
    exact ImpX.here ⟨_,.cons (.tmp _ _ J) .nil,J⟩
  · refine have h := iteF hc h; tK<|tS<|tSR<|rM J J<|ARun.qv (t_len J) J<|rM J J<|rN<|ATodo.block<|ATodo.loopI (fun x : Int=>campaign_CheckMarks_b1 p0x0 x) (fun x σ'=>σ' = ⟨48,[(0,lE4 p0x0),(8,lE4 p0x0),(9,I (p0x0.length : Int)),(10,I x)],[]⟩) h ?_ ?_
    · exact ImpX.lq [] J J J
    · intro n2 z1 σ' J1 hmk h hJ1 hA1
      obtain rfl := hmk
      replace h : campaign_CheckMarks_b1 p0x0 n2 = some z1 := h
      unfold campaign_CheckMarks_b1 at h
      refine tSR<|ARun.qv (q_lss J J) J<|rN<|tS<|ATodo.cond_d J (fun hc=>?_) (fun hc=>?_)
      · refine have h := iteT hc h; tK<|tS<|ATodo.block<|tSR<|rM J J<|bndE h fun v3 e1 h=>ARun.qv (t_index J J J e1 J J) J<|ARun.qv (q_load_rptr_agg J J J) J<|n_alloc J J J J fun b4=>rA J J<|n_store_ptr J J J J .p0 J J<|rN<|ATodo.block<|tSR<|rF J J J<|rL J J .p0 J J<|r_callp J (base_Moment_c J) (CoL.refl _) J<|ARun.qv (q_not J) J<|rA J J<|rN<|ATodo.cond J (fun hc=>?_) (fun hc=>?_)
        · refine have h := iteT hc h; tSR<|rA J J<|rN<|ATodo.ret<|have h := outL h hA1; ?_
          obtain rfl := Option.some.inj h
          exact ImpX.here ⟨_,.cons (.tmp _ _ J) .nil,J⟩
        · refine have h := iteFb hc h; tSR<|rF J J J<|rL J J .p0 J J<|bndE h fun v5 e2 h=>r_callp J (base_Key_c e2) (CoL.refl _) J<|ARun.qv (q_not J) J<|rA J J<|rN<|ATodo.cond J (fun hc=>?_) (fun hc=>?_)
          · refine have h := iteT hc h; tSR<|rA J J<|rN<|ATodo.ret<|have h := outL h hA1; ?_
            obtain rfl := Option.some.inj h
            exact ImpX.here ⟨_,.cons (.tmp _ _ J) .nil,J⟩
          · refine have h := iteFb hc h; tSR<|rF J J J<|rL J J .p0 J J<|r_callp J (base_Out_c J) (CoL.refl _) J<|rA J J<|rN<|ATodo.cond J (fun hc=>?_) (fun hc=>?_)
            · refine have h := iteT hc h; tSR<|rA J J<|rN<|ATodo.ret<|have h := outL h hA1; ?_
              obtain rfl := Option.some.inj h
              exact ImpX.here ⟨_,.cons (.tmp _ _ J) .nil,J⟩
            · refine have h := iteFb hc h; tSR<|rF J J J<|ARun.qv (n_load_ptr_part J J .p0 J J) J<|r_callp J (base_Version_c J) (CoL.refl _) J<|ARun.qv (q_not J) J<|rA J J<|rN<|ATodo.cond J (fun hc=>?_) (fun hc=>?_)
              · refine have h := iteT hc h; tSR<|rA J J<|rN<|ATodo.ret<|have h := outL h hA1; ?_
                obtain rfl := Option.some.inj h
                exact ImpX.here ⟨_,.cons (.tmp _ _ J) .nil,J⟩
              · refine have h := iteFb hc h; tS<|ATodo.cut (fun σ'=>∃ (c6 : Bool),campaign_CheckMarks_j1 n2 c6 = some z1 ∧ σ' = ⟨48,[(0,lE4 p0x0),(8,lE4 p0x0),(9,I (p0x0.length : Int)),(10,I n2),(34,.bool c6)],[]⟩) ?_ ?_
                · refine ATodo.regionM (id := 14) (A := [0,1,3,7,7,7,39,119,247,511,1023,2047,4095]) 13 mixed J (by kernel_rfl) (by kernel_rfl)<|AM.qv (q_move J) J<|AM.qv (q_gtr J J) J<|AM.qv (q_move J) J<|AM.guard_dt J J J (fun hc=>?_) (fun hc=>?_)
                  · exact have h := iteT hc h; AM.qv (q_load_ptr_all J J .p0 J) J<|AM.guard_yes J J J<|AM.qv (q_move J) J<|AM.guard_yes J J J<|AM.qv (q_move J) J<|AM.guard_yes J J J<|AM.qv (q_subw J J) J<|AM.guard_yes J J J<|bndE h fun v7 e3 h=>AM.qv (t_index J J J e3 J J) J<|AM.guard_yes J J J<|AM.qv (q_load_rptr_agg J J J) J<|AM.guard_yes J J J<|bndE h fun v8 e4 h=>AM.callp J (campaign_byMoment_c e4) (CoL.refl _) J<|AM.guard_yes J J J<|AM.qv (q_leq J J) J<|AM.qv (q_pick_t J J) J<|AM.qv (q_assign J) J<|AM.nil<|rN<|ATodo.stop<|ImpX.lq [] ⟨decide (v8 ≤ (0 : Int)),h,J⟩ J J
                  · exact have h := iteF hc h; AM.guard_no J J J J<|AM.guard_no J J J J<|AM.guard_no J J J J<|AM.guard_no J J J J<|AM.guard_no J J J J<|AM.guard_no J J J J<|AM.guard_no J J J J<|AM.qv (q_pick_f J J) J<|AM.qv (q_assign J) J<|AM.nil<|rN<|ATodo.stop<|ImpX.lq [] ⟨false,h,J⟩ J J
                · rintro σ' ⟨c6, h, rfl⟩
                  unfold campaign_CheckMarks_j1 at h
                  refine ATodo.cond J (fun hc=>?_) (fun hc=>?_)
                  · refine have h := iteT hc h; tSR<|rA J J<|rN<|ATodo.ret<|have h := outL h hA1; ?_
                    obtain rfl := Option.some.inj h
                    exact ImpX.here ⟨_,.cons (.tmp _ _ J) .nil,J⟩
                  · refine have h := iteFb hc h; tK<|ATodo.blk<|ATodo.blk<|tR<|ARun.qv (q_addw J J) J<|rM J J<|rN<|ATodo.stop<|?_
                    obtain rfl := Option.some.inj h
                    exact hJ1 _ _ J<|ImpX.lq [] J J J
      · refine have h := iteF hc h; ATodo.exit J<|have h := outL h hA1; tSR<|rA J J<|rN<|ATodo.ret<|?_
        obtain rfl := Option.some.inj h
        exact ImpX.here ⟨_,.cons (.tmp _ _ J) .nil,J⟩

theorem base_First_c [GI : GTab] {p0x0 : List Int} {r : Int} (h : base_First p0x0 = some r) : Pu Tryz.prog 74 [lE0 p0x0] (I r) := by
  unfold base_First at h
  refine ACall.bodyN Tryz.func74 J Tryz.ntmps74 Tryz.results74 J J ?_
  refine tSR<|rA J J<|rN<|tS<|tSR<|rM J J<|ARun.qv (t_len J) J<|rM J J<|rN<|ATodo.block<|ATodo.loopI (fun x : Int=>base_First_b1 p0x0 x) (fun x σ'=>σ' = ⟨15,[(5,lE0 p0x0),(6,I (p0x0.length : Int)),(7,I x)],[]⟩) h ?_ ?_
  · exact ImpX.lq [] J J J
  · intro n2 z1 σ' J1 hmk h hJ1 hA1
    obtain rfl := hmk
    replace h : base_First_b1 p0x0 n2 = some z1 := h
    unfold base_First_b1 at h
    refine tSR<|ARun.qv (q_lss J J) J<|rN<|tS<|ATodo.cond_d J (fun hc=>?_) (fun hc=>?_)
    · refine have h := iteT hc h; tK<|tS<|ATodo.block<|tSR<|bndE h fun v3 e1 h=>ARun.qv (t_index J J J e1 J J) J<|ARun.qv (q_load_rptr J J J) J<|rA J J<|rN<|tSR<|rM J J<|ARun.qv (q_neq J J) J<|rN<|ATodo.cond_d J (fun hc=>?_) (fun hc=>?_)
      · refine have h := iteT hc h; tSR<|rM J J<|rA J J<|rN<|ATodo.ret<|have h := outL h hA1; ?_
        obtain rfl := Option.some.inj h
        exact ImpX.here ⟨_,.cons (.tmp _ _ J) .nil,J⟩
      · refine have h := iteF hc h; tK<|ATodo.blk<|tR<|ARun.qv (q_addw J J) J<|rM J J<|rN<|ATodo.stop<|?_
        obtain rfl := Option.some.inj h
        exact hJ1 _ _ J<|ImpX.lq [] J J J
    · refine have h := iteF hc h; ATodo.exit J<|have h := outL h hA1; tSR<|rA J J<|rN<|ATodo.ret<|?_
      obtain rfl := Option.some.inj h
      exact ImpX.here ⟨_,.cons (.tmp _ _ J) .nil,J⟩

theorem campaign_fault_c [GI : GTab] {p0x0 : Campaign} {p1x0 : List DeviceS} {p2x0 : List MarkS} {p3x0 : Int} {r : Int} (h : campaign_fault p0x0 p1x0 p2x0 p3x0 = some r) : Pu Tryz.prog 51 [.rptr [.str p0x0.Key,I p0x0.Target.Major,I p0x0.Target.Minor,I p0x0.Target.Patch,I p0x0.At,lE2 p0x0.Waves,I p0x0.Hours.From,I p0x0.Hours.To,I p0x0.Room],lE3 p1x0,lE4 p2x0,I p3x0] (I r) := by
  unfold campaign_fault at h
  refine ACall.bodyN Tryz.func51 J Tryz.ntmps51 Tryz.results51 J J ?_
  refine tSR<|rA J J<|rN<|tSR<|rM J J<|ARun.qv (q_nilCheck_rptr J) J<|ARun.qv (q_load_rptr_agg J J J) J<|bndE h fun v1 e1 h=>r_callp J (campaign_CheckCampaign_c e1) (CoL.refl _) J<|rM J J<|bndE h fun v2 e2 h=>r_callp J (campaign_CheckFleet_c e2) (CoL.refl _) J<|rM J J<|bndE h fun v3 e3 h=>r_callp J (campaign_CheckMarks_c e3) (CoL.refl _) J<|n_buildSliceL (xs := ([v1,v2,v3] : List Int).map I) J J J J J J<|bndE h fun v4 e4 h=>r_callp J (base_First_c e4) (CoL.refl _) J<|rA J J<|rN<|tS<|tS<|ATodo.cut (fun σ'=>∃ (c5 : Bool),campaign_fault_j1 v4 c5 = some r ∧ σ' = ⟨28,[(9,I v4),(26,.bool c5)],[]⟩) ?_ ?_
  · refine tR<|rM J J<|ARun.qv (q_eql J J) J<|rM J J<|ARun.guard_dt J J J (fun hc=>?_) (fun hc=>?_)
    · rw [andTd hc] at h
      exact rM J J<|rY J J J<|r_callp J (base_Moment_c J) (CoL.refl _) J<|rY J J J<|ARun.qv (q_not J) J<|rT J J J<|rN<|ATodo.stop<|ImpX.lq [] ⟨!(base_Moment p3x0),h,J⟩ J J
    · rw [andFd hc] at h
      exact rG J J J J<|rG J J J J<|rE J J J<|rN<|ATodo.stop<|ImpX.lq [] ⟨false,h,J⟩ J J
  · rintro σ' ⟨c5, h, rfl⟩
    unfold campaign_fault_j1 at h
    refine ATodo.cut (fun σ'=>∃ (n6 : Int),campaign_fault_j2 n6 = some r ∧ σ' = ⟨28,[(9,I n6)],[]⟩) ?_ ?_
    · refine ATodo.cond J (fun hc=>?_) (fun hc=>?_)
      · exact have h := iteT hc h; tR<|rA J J<|rN<|ATodo.stop<|ImpX.lq [] ⟨(1 : Int),h,J⟩ J J
      · exact have h := iteFb hc h; tK<|ATodo.stop<|ImpX.lq [] ⟨v4,h,J⟩ J J
    · rintro σ' ⟨n6, h, rfl⟩
      unfold campaign_fault_j2 at h
      refine tSR<|rM J J<|rA J J<|rN<|ATodo.ret<|?_
      obtain rfl := Option.some.inj h
      exact ImpX.here ⟨_,.cons (.tmp _ _ J) .nil,J⟩

theorem base_Hash_c [GI : GTab] {p0x0 : List Str} {r : Int} (h : base_Hash p0x0 = some r) : Pu Tryz.prog 158 [lE1 p0x0] (.int .u64 r) := by
  unfold base_Hash at h
  refine ACall.bodyN Tryz.func158 J Tryz.ntmps158 Tryz.results158 J J ?_
  refine tSR<|rA J J<|rN<|tSR<|rA J J<|rN<|tS<|tSR<|rM J J<|ARun.qv (t_len J) J<|rM J J<|rN<|ATodo.block<|ATodo.loopI (fun x : Int × Int=>base_Hash_b1 p0x0 x.1 x.2) (fun x σ'=>σ' = ⟨33,[(3,.int .u64 x.1),(7,lE1 p0x0),(8,I (p0x0.length : Int)),(9,I x.2)],[]⟩) h ?_ ?_
  · exact ImpX.lq [] J J J
  · intro x z1 σ' J1 hmk h hJ1 hA1
    obtain ⟨n3, n4⟩ := x
    obtain rfl := hmk
    replace h : base_Hash_b1 p0x0 n3 n4 = some z1 := h
    unfold base_Hash_b1 at h
    refine tSR<|ARun.qv (q_lss J J) J<|rN<|tS<|ATodo.cond_d J (fun hc=>?_) (fun hc=>?_)
    · refine have h := iteT hc h; tK<|tS<|ATodo.block<|tSR<|rM J J<|bndE h fun v5 e1 h=>ARun.qv (t_index J J J e1 J J) J<|ARun.qv (q_load_rptr J J J) J<|rA J J<|rA J J<|rN<|tS<|tSR<|rM J J<|ARun.qv (q_gtr J J) J<|rN<|ATodo.cut (fun σ'=>∃ (n6 : Int),base_Hash_j1 n4 v5 n6 = some z1 ∧ σ' = ⟨33,[(3,.int .u64 n6),(5,.str v5),(7,lE1 p0x0),(8,I (p0x0.length : Int)),(9,I n4)],[]⟩) ?_ ?_
      · refine ATodo.cond_d J (fun hc=>?_) (fun hc=>?_)
        · exact have h := iteT hc h; tR<|rM J J<|ARun.qv (q_mulw J J) J<|rA J J<|rN<|ATodo.stop<|ImpX.lq [] ⟨IntKind.u64.wrap (n3 * (1099511628211 : Int)),h,J⟩ J J
        · exact have h := iteF hc h; tK<|ATodo.stop<|ImpX.lq [] ⟨n3,h,J⟩ J J
      · rintro σ' ⟨n6, h, rfl⟩
        unfold base_Hash_j1 at h
        refine tSR<|rM J J<|ARun.qv (q_len_str J) J<|rM J J<|rN<|ATodo.block<|ATodo.loopI (fun x : Int × Int=>base_Hash_b2 n4 v5 x.1 x.2) (fun x σ'=>σ' = ⟨33,[(3,.int .u64 x.1),(5,.str v5),(7,lE1 p0x0),(8,I (p0x0.length : Int)),(9,I n4),(19,I (v5.length : Int)),(20,I x.2)],[]⟩) h ?_ ?_
        · exact ImpX.lq [] J J J
        · intro x z2 σ' J2 hmk h hJ2 hA2
          obtain ⟨n9, n10⟩ := x
          obtain rfl := hmk
          replace h : base_Hash_b2 n4 v5 n9 n10 = some z2 := h
          unfold base_Hash_b2 at h
          refine tSR<|ARun.qv (q_lss J J) J<|rN<|tS<|ATodo.cond_d J (fun hc=>?_) (fun hc=>?_)
          · refine have h := iteT hc h; tK<|tS<|ATodo.block<|tSR<|rM J J<|rA J J<|rN<|tR<|rM J J<|rM J J<|rM J J<|bndE h fun c11 e2 h=>ARun.qv (t_index_str J J e2) J<|ARun.qv (q_conv_int J) J<|ARun.qv (t_xor J J) J<|ARun.qv (q_mulw J J) J<|rA J J<|rN<|ATodo.blk<|tR<|ARun.qv (q_addw J J) J<|rM J J<|rN<|ATodo.stop<|?_
            obtain rfl := Option.some.inj h
            exact hJ2 _ _ J<|ImpX.lq [] J J J
          · refine have h := iteF hc h; ATodo.exit J<|have h := outL h hA2; ATodo.blk<|tR<|ARun.qv (q_addw J J) J<|rM J J<|rN<|ATodo.stop<|?_
            obtain rfl := Option.some.inj h
            exact hJ1 _ _ J<|ImpX.lq [] J J J
    · refine have h := iteF hc h; ATodo.exit J<|have h := outL h hA1; tSR<|rM J J<|rA J J<|rN<|ATodo.ret<|?_
      obtain rfl := Option.some.inj h
      exact ImpX.here ⟨_,.cons (.tmp _ _ J) .nil,J⟩

theorem campaign_lot_c [GI : GTab] {p0x0 : Campaign} {p1x0 : Str} {r : Int} (h : campaign_lot p0x0 p1x0 = some r) : Pu Tryz.prog 127 [.rptr [.str p0x0.Key,I p0x0.Target.Major,I p0x0.Target.Minor,I p0x0.Target.Patch,I p0x0.At,lE2 p0x0.Waves,I p0x0.Hours.From,I p0x0.Hours.To,I p0x0.Room],.str p1x0] (I r) := by
  unfold campaign_lot at h
  refine ACall.bodyN Tryz.func127 J Tryz.ntmps127 Tryz.results127 J J ?_
  refine tSR<|rA J J<|rN<|tSR<|rM J J<|ARun.qv (q_nilCheck_rptr J) J<|ARun.qv (n_field_rptr J J) J<|ARun.qv (q_load_rptr J J J) J<|rM J J<|n_buildSliceL (xs := ([p0x0.Key,p1x0] : List Str).map AV.str) J J J J J J<|bndE h fun v1 e1 h=>r_callp J (base_Hash_c e1) (CoL.refl _) J<|rA J J<|rN<|tSR<|rM J J<|rM J J<|ARun.qv (t_shr J J (by decide)) J<|ARun.qv (t_xor J J) J<|ARun.qv (q_rem J J (by decide)) J<|ARun.qv (q_conv_int J) J<|rA J J<|rN<|ATodo.ret<|?_
  obtain rfl := Option.some.inj h
  exact ImpX.here ⟨_,.cons (.tmp _ _ J) .nil,J⟩

theorem campaign_waveOf_c [GI : GTab] {p0x0 : Campaign} {p1x0 : Str} {r : Int} (h : campaign_waveOf p0x0 p1x0 = some r) : Pu Tryz.prog 105 [.rptr [.str p0x0.Key,I p0x0.Target.Major,I p0x0.Target.Minor,I p0x0.Target.Patch,I p0x0.At,lE2 p0x0.Waves,I p0x0.Hours.From,I p0x0.Hours.To,I p0x0.Room],.str p1x0] (I r) := by
  unfold campaign_waveOf at h
  refine ACall.bodyN Tryz.func105 J Tryz.ntmps105 Tryz.results105 J J ?_
  refine tSR<|rA J J<|rN<|tSR<|rM J J<|rM J J<|bndE h fun v1 e1 h=>r_callp J (campaign_lot_c e1) (CoL.refl _) J<|rA J J<|rA J J<|rN<|tS<|tSR<|rM J J<|ARun.qv (q_nilCheck_rptr J) J<|ARun.qv (n_field_rptr J J) J<|ARun.qv (q_load_rptr J J J) J<|ARun.qv (t_len J) J<|rM J J<|rN<|ATodo.block<|ATodo.loopI (fun x : Int × Int=>campaign_waveOf_b1 p0x0 v1 x.1 x.2) (fun x σ'=>σ' = ⟨37,[(0,.rptr [.str p0x0.Key,I p0x0.Target.Major,I p0x0.Target.Minor,I p0x0.Target.Patch,I p0x0.At,lE2 p0x0.Waves,I p0x0.Hours.From,I p0x0.Hours.To,I p0x0.Room]),(5,I v1),(6,I x.1),(15,lE2 p0x0.Waves),(16,I (p0x0.Waves.length : Int)),(17,I x.2)],[]⟩) h ?_ ?_
  · exact ImpX.lq [] J J J
  · intro x z1 σ' J1 hmk h hJ1 hA1
    obtain ⟨n4, n5⟩ := x
    obtain rfl := hmk
    replace h : campaign_waveOf_b1 p0x0 v1 n4 n5 = some z1 := h
    unfold campaign_waveOf_b1 at h
    refine tSR<|ARun.qv (q_lss J J) J<|rN<|tS<|ATodo.cond_d J (fun hc=>?_) (fun hc=>?_)
    · refine have h := iteT hc h; tK<|tS<|ATodo.block<|tSR<|rM J J<|bndE h fun v6 e2 h=>ARun.qv (t_index J J J e2 J J) J<|ARun.qv (q_load_rptr_agg J J J) J<|n_alloc J J J J fun b7=>rA J J<|n_store_ptr J J J J .p0 J J<|rN<|tSR<|rM J J<|rF J J J<|rL J J .p0 J J<|ARun.qv (q_addw J J) J<|rA J J<|rN<|tSR<|rM J J<|rM J J<|ARun.qv (q_lss J J) J<|rN<|ATodo.cond_d J (fun hc=>?_) (fun hc=>?_)
      · refine have h := iteT hc h; tSR<|rM J J<|rA J J<|rN<|ATodo.ret<|have h := outL h hA1; ?_
        obtain rfl := Option.some.inj h
        exact ImpX.here ⟨_,.cons (.tmp _ _ J) .nil,J⟩
      · refine have h := iteF hc h; tK<|ATodo.blk<|tR<|ARun.qv (q_addw J J) J<|rM J J<|rN<|ATodo.stop<|?_
        obtain rfl := Option.some.inj h
        exact hJ1 _ _ J<|ImpX.lq [] J J J
    · refine have h := iteF hc h; ATodo.exit J<|have h := outL h hA1; tSR<|rM J J<|ARun.qv (q_nilCheck_rptr J) J<|ARun.qv (n_field_rptr J J) J<|ARun.qv (q_load_rptr J J J) J<|ARun.qv (t_len J) J<|ARun.qv (q_subw J J) J<|rA J J<|rN<|ATodo.ret<|?_
      obtain rfl := Option.some.inj h
      exact ImpX.here ⟨_,.cons (.tmp _ _ J) .nil,J⟩

theorem campaign_state_ready_c [GI : GTab] {b_0x1 : Bk} {b_0x2 : Bk} {p0x0 : Campaign_state} {p1x0 : Campaign_course} {r : Bool} (h : campaign_state_ready p0x0 p1x0 = r) : Pu Tryz.prog 54 [.rptr [.rptr [.str p0x0.c_.Key,I p0x0.c_.Target.Major,I p0x0.c_.Target.Minor,I p0x0.c_.Target.Patch,I p0x0.c_.At,lE2 p0x0.c_.Waves,I p0x0.c_.Hours.From,I p0x0.c_.Hours.To,I p0x0.c_.Room],.mref b_0x1,.mref b_0x2,lE0 p0x0.open_,lE0 p0x0.ends_,lE0 p0x0.fails_,lE0 p0x0.begins_,I p0x0.stopped_,I p0x0.next_],.rptr [I p1x0.Standing.Kind,I p1x0.Standing.Since,I p1x0.Standing.Version.Major,I p1x0.Standing.Version.Minor,I p1x0.Standing.Version.Patch,I p1x0.Standing.Fails,I p1x0.offered_.Major,I p1x0.offered_.Minor,I p1x0.offered_.Patch]] (.bool r) := by
  unfold campaign_state_ready at h
  refine ACall.bodyN Tryz.func54 J Tryz.ntmps54 Tryz.results54 J J ?_
  refine tSR<|rA J J<|rN<|tS<|ATodo.regionM (id := 1) (A := [0,1,3,7,15,0,32,96,224,480,992,2016,4095,8191]) 14 mixed J (by kernel_rfl) (by kernel_rfl)<|AM.qv (q_move J) J<|AM.qv (q_nilCheck_rptr J) J<|AM.qv (n_field_rptr J J) J<|AM.qv (n_field_rptr J J) J<|AM.qv (n_load_rptr_part J J J J) J<|AM.qv (q_move J) J<|AM.qv (q_nilCheck_rptr J) J<|AM.qv (n_field_rptr J J) J<|AM.qv (q_load_rptr J J J) J<|AM.qv (q_nilCheck_rptr J) J<|AM.qv (n_field_rptr J J) J<|AM.qv (n_load_rptr_part J J J J) J<|AM.qv (t_teq (g := Version.av) (X := p1x0.Standing.Version) (Y := p0x0.c_.Target) J J J J J) J<|AM.qv (q_assign J) J<|AM.nil<|rN<|ATodo.ret<|?_
  obtain rfl := h
  exact ImpX.here ⟨_,.cons (.tmp _ _ J) .nil,J⟩

theorem campaign_newState_c [GI : GTab] {p0x0 : Campaign} {p1x0 : List DeviceS} {r : Campaign_state} (h : campaign_newState p0x0 p1x0 = some r) : ACall Tryz.prog 52 [.rptr [.str p0x0.Key,I p0x0.Target.Major,I p0x0.Target.Minor,I p0x0.Target.Patch,I p0x0.At,lE2 p0x0.Waves,I p0x0.Hours.From,I p0x0.Hours.To,I p0x0.Room],lE3 p1x0] [] (T10 (fun d_0 d_0x1 d_0x2 d_0x3 d_0x4 d_0x5 d_0x6 d_0x9 d_0x9o d_0x9s=>[(d_0,.cells [.rptr [.str p0x0.Key,I p0x0.Target.Major,I p0x0.Target.Minor,I p0x0.Target.Patch,I p0x0.At,lE2 p0x0.Waves,I p0x0.Hours.From,I p0x0.Hours.To,I p0x0.Room],.mref d_0x1,.mref d_0x2,.sl 1 d_0x3 0 r.open_.length,.sl 1 d_0x4 0 r.ends_.length,.sl 1 d_0x5 0 r.fails_.length,.sl 1 d_0x6 0 r.begins_.length,I r.stopped_,I r.next_]),(d_0x1,.mp (r.of_.map (fun e=>(AV.str e.1,(pA d_0x9o) e.2)))),(d_0x2,mE6 r.wave_),(d_0x3,aE0 r.open_),(d_0x4,aE0 r.ends_),(d_0x5,aE0 r.fails_),(d_0x6,aE0 r.begins_),(d_0x9,.pool (araE kE0 d_0x9o d_0x9s r.ar0))]) (fun d_0 d_0x1 d_0x2 d_0x3 d_0x4 d_0x5 d_0x6 d_0x9 d_0x9o d_0x9s=>.ptr d_0 0)) := by
  unfold campaign_newState at h
  refine ACall.lessH ?_
  refine ACall.bodyN Tryz.func52 J Tryz.ntmps52 Tryz.results52 J J ?_
  refine ATodo.ghost (ImpX.poolNew (kb := kE0) (fun b1 bo2 bs3=>ImpX.here ?_))
  refine tSR<|rA J J<|rN<|tSR<|rM J J<|ARun.qv (q_nilCheck_rptr J) J<|ARun.qv (n_field_rptr J J) J<|ARun.qv (q_load_rptr J J J) J<|ARun.qv (t_len J) J<|rA J J<|rN<|tS<|bndE h fun l6 e1 h=>bndE h fun l8 e2 h=>bndE h fun l10 e3 h=>ATodo.regionT (id := 2) (A := [0,0,0,0,8,0,32,0,128,0,512,1536,3584,8191,16383,32767]) (H0 := []) (HH := fun β=>[((β 1),.mp (([] : List (Str × Int)).map (fun e=>(AV.str e.1,(pA bo2) e.2)))),((β 2),mE6 []),((β 4),aE0 l6),((β 6),aE0 l8),((β 8),aE0 l10),(b1,.pool (araE kE0 bo2 bs3 ([] : List Campaign_course)))]) 13 mixed J (by kernel_rfl) (by kernel_rfl) [⟨some 1,none,[],fun b=>(b,.mp (([] : List (Str × Int)).map (fun e=>(AV.str e.1,(pA bo2) e.2)))),none,[]⟩,⟨some 2,none,[],fun b=>(b,mE6 []),none,[]⟩,⟨some 4,none,[],fun b=>(b,aE0 l6),none,[]⟩,⟨some 6,none,[],fun b=>(b,aE0 l8),none,[]⟩,⟨some 8,none,[],fun b=>(b,aE0 l10),none,[]⟩] [1,2,4,6,8] J (by kernel_rfl) J .nil (fun _=>J)<|AT.am 1 J J<|AM.qv (q_move J) J<|AM.nil<|AT.runD (V := fun b=>.mref b) (Ti := []) (Pi := fun b=>[(b,.mp (([] : List (Str × Int)).map (fun e=>(AV.str e.1,(pA bo2) e.2))))]) (fun _=>J) (fun _=>J) (fun _ _=>J) J (fun _=>J) J J J ?_ ?_
  · exact t_makeMap J fun b4=>ARun.nil ⟨b4,_,J,J⟩
  refine AT.runD (V := fun b=>.mref b) (Ti := []) (Pi := fun b=>[(b,mE6 [])]) (fun _=>J) (fun _=>J) (fun _ _=>J) J (fun _=>J) J J J ?_ ?_
  · exact t_makeMap J fun b5=>ARun.nil ⟨b5,_,J,J⟩
  refine AT.am 1 J J<|AM.qv (q_move J) J<|AM.nil<|AT.runD (V := fun b=>.sl 1 b 0 l6.length) (Ti := []) (Pi := fun b=>[(b,aE0 l6)]) (fun _=>J) (fun _=>J) (fun _ _=>J) J (fun _=>J) J J J ?_ ?_
  · exact t_makeSlice (g := I) (Z := (0 : Int)) J J J J J J J J J e1 fun b7=>ARun.nil ⟨b7,_,J,J⟩
  refine AT.am 1 J J<|AM.qv (q_move J) J<|AM.nil<|AT.runD (V := fun b=>.sl 1 b 0 l8.length) (Ti := []) (Pi := fun b=>[(b,aE0 l8)]) (fun _=>J) (fun _=>J) (fun _ _=>J) J (fun _=>J) J J J ?_ ?_
  · exact t_makeSlice (g := I) (Z := (0 : Int)) J J J J J J J J J e2 fun b9=>ARun.nil ⟨b9,_,J,J⟩
  refine AT.am 1 J J<|AM.qv (q_move J) J<|AM.nil<|AT.runD (V := fun b=>.sl 1 b 0 l10.length) (Ti := []) (Pi := fun b=>[(b,aE0 l10)]) (fun _=>J) (fun _=>J) (fun _ _=>J) J (fun _=>J) J J J ?_ ?_
  · exact t_makeSlice (g := I) (Z := (0 : Int)) J J J J J J J J J e3 fun b11=>ARun.nil ⟨b11,_,J,J⟩
  refine AT.am 4 J J<|AM.qv (q_move J) J<|AM.qv (q_nilCheck_rptr J) J<|AM.qv (n_field_rptr J J) J<|AM.qv (q_load_rptr J J J) J<|AM.nil<|AT.nilN (fun _=>J) fun β=>?_
  generalize β 1 = b4
  generalize β 2 = b5
  generalize β 4 = b7
  generalize β 6 = b9
  generalize β 8 = b11
  clear β
  refine ARun.qv (n_build J J J J J) J<|n_box J J J J fun b12=>rA J J<|rN<|tS<|tSR<|rM J J<|ARun.qv (t_len J) J<|rM J J<|rN<|ATodo.block<|ATodo.loopI (fun x : (List Campaign_course) × (List (Str × Int)) × (List (Str × Int)) × (List Int) × Int=>campaign_newState_b1 p0x0 p1x0 l8 l10 x.1 x.2.1 x.2.2.1 x.2.2.2.1 x.2.2.2.2) (fun x σ'=>∃ (bo21 : Nat → Bk) (bs22 : Nat → Nat → Bk),σ' = ⟨83,[(0,.rptr [.str p0x0.Key,I p0x0.Target.Major,I p0x0.Target.Minor,I p0x0.Target.Patch,I p0x0.At,lE2 p0x0.Waves,I p0x0.Hours.From,I p0x0.Hours.To,I p0x0.Room]),(6,.ptr b12 0),(30,lE3 p1x0),(31,I (p1x0.length : Int)),(32,I x.2.2.2.2)],[(b1,.pool (araE kE0 bo21 bs22 x.1)),(b12,.cells [.rptr [.str p0x0.Key,I p0x0.Target.Major,I p0x0.Target.Minor,I p0x0.Target.Patch,I p0x0.At,lE2 p0x0.Waves,I p0x0.Hours.From,I p0x0.Hours.To,I p0x0.Room],.mref b4,.mref b5,.sl 1 b7 0 x.2.2.2.1.length,.sl 1 b9 0 l8.length,.sl 1 b11 0 l10.length,.nil,I (-1 : Int),I p0x0.At]),(b4,.mp (x.2.1.map (fun e=>(AV.str e.1,(pA bo21) e.2)))),(b5,mE6 x.2.2.1),(b7,aE0 x.2.2.2.1),(b9,aE0 l8),(b11,aE0 l10)]⟩) h ?_ ?_
  · exact ImpX.lq [6,0,0,0,0,0,0] ⟨bo2,bs3,J⟩ J J
  · intro x z1 σ' J1 hmk h hJ1 hA1
    obtain ⟨l20, l23, l24, l25, n26⟩ := x
    obtain ⟨bo21, bs22, rfl⟩ := hmk
    replace h : campaign_newState_b1 p0x0 p1x0 l8 l10 l20 l23 l24 l25 n26 = some z1 := h
    unfold campaign_newState_b1 at h
    refine tSR<|ARun.qv (q_lss J J) J<|rN<|tS<|ATodo.cond_d J (fun hc=>?_) (fun hc=>?_)
    · refine have h := iteT hc h; tK<|tS<|ATodo.block<|tSR<|bndE h fun v27 e4 h=>ARun.qv (t_index J J J e4 J J) J<|ARun.qv (q_load_rptr_agg J J J) J<|n_alloc J J J J fun b28=>n_store_ptr J J J J .p0 J J<|rN<|tSR<|rF J J J<|ARun.qv (n_load_ptr_part J J .p0 J J) J<|ARun.qv (n_build J J J J J) J<|ARun.qv (n_build J J J J J) J<|n_box J J J J fun b29=>rA J J<|rN<|tS<|bndE h fun u30 e5 h=>ATodo.ghost (ImpX.araAddN (kb := kE0) (v := (⟨(⟨(0 : Int),(0 : Int),v27.Firmware,(0 : Int)⟩ : Standing),(⟨(0 : Int),(0 : Int),(0 : Int)⟩ : Version)⟩ : Campaign_course)) (s := nbk []) (.cons .p0 .nil) J (fun _ _=>.p1) (fun bo31 bs32 hEe6 hNe6=>ImpX.here ?_))
      refine ATodo.ghost<|ImpX.obEq (re_mp hEe6 e5) .p3<|ImpX.here<|ATodo.ghost<|ImpX.eqs (s := 40) (av' := .ptr (bo31 (l20.length : Int).toNat) 0) J (re_new hNe6 _)<|ImpX.here<|ATodo.ghost<|ImpX.eqs (s := 9) (av' := .ptr (bo31 (l20.length : Int).toNat) 0) J (re_new hNe6 _)<|ImpX.here<|bndE h fun v33 e7 h=>ATodo.ghost (ImpX.mpAsk (k := .str v27.Key) (fun _=>.p3) (fun qs7=>ImpX.here ?_))
      refine ATodo.regionT (id := 7) (A := [0,1,3,7,0,16,0,64,192,448,0,1024,0,0,0,16384,57344,123903,254975,521215,1048575,2097151,4194303]) (H0 := [(b4,.mps (l23.map (fun e=>(AV.str e.1,(pA bo31) e.2))) qs7 (.str v27.Key))]) (HH := fun β=>[(b4,.mp ((mset l23 v27.Key (l20.length : Int)).map (fun e=>(AV.str e.1,(pA bo31) e.2)))),(b28,.cells (cE3 v27)),(b1,.pool (araE kE0 bo31 bs32 (l20 ++ [(⟨(⟨(0 : Int),(0 : Int),v27.Firmware,(0 : Int)⟩ : Standing),(⟨(0 : Int),(0 : Int),(0 : Int)⟩ : Version)⟩ : Campaign_course)]))),(b12,.cells [.rptr [.str p0x0.Key,I p0x0.Target.Major,I p0x0.Target.Minor,I p0x0.Target.Patch,I p0x0.At,lE2 p0x0.Waves,I p0x0.Hours.From,I p0x0.Hours.To,I p0x0.Room],.mref b4,.mref b5,.sl 1 b7 0 l25.length,.sl 1 b9 0 l8.length,.sl 1 b11 0 l10.length,.nil,I (-1 : Int),I p0x0.At]),(b5,mE6 l24),(b7,aE0 l25),(b9,aE0 l8),(b11,aE0 l10)]) 20 mixed J (by kernel_rfl) (by kernel_rfl) [⟨none,some 17,[],fun _=>(b4,.mps (l23.map (fun e=>(AV.str e.1,(pA bo31) e.2))) qs7 (.str v27.Key)),none,[]⟩,⟨some 17,some 19,[],fun _=>(b4,.mps ((mset (someM l23) v27.Key (mget? l23 v27.Key)).map fun e=>(AV.str e.1,pQ bo31 e.2)) qs7 (.str v27.Key)),none,[]⟩,⟨some 19,none,[],fun _=>(b4,.mp ((mset l23 v27.Key (l20.length : Int)).map (fun e=>(AV.str e.1,(pA bo31) e.2)))),none,[]⟩] [] J (by kernel_rfl) J (.cons .p3 .nil) (fun _=>J)<|AT.am 17 J J<|AM.qv (q_move J) J<|AM.qv (q_nilCheck_ptr J) J<|AM.qv (n_field_ptr J J) J<|AM.qv (q_load_ptr J J .p2 J) J<|AM.qv (n_field_ptr J J) J<|AM.qv (q_load_ptr J J .p0 J) J<|AM.qv (q_move J) J<|AM.qv (q_nilCheck_ptr J) J<|AM.qv (n_field_ptr J J) J<|AM.qv (q_load_ptr J J .p2 J) J<|AM.qv (n_field_ptr J J) J<|AM.qv (q_load_ptr J J .p0 J) J<|AM.qv (q_move J) J<|AM.qv (q_move J) J<|AM.qv (n_field_ptr J J) J<|AM.qv (q_load_ptr J J .p0 J) J<|AM.callp J (campaign_waveOf_c e7) (CoL.refl _) J<|AM.nil<|AT.runS (av := .tup [pQ bo31 (mget? l23 v27.Key),I ((qs7 : Nat) : Int)]) (Ti := [(b4,.mps (l23.map (fun e=>(AV.str e.1,(pA bo31) e.2))) qs7 (.str v27.Key))]) (Pi := [(b4,.mps ((mset (someM l23) v27.Key (mget? l23 v27.Key)).map fun e=>(AV.str e.1,pQ bo31 e.2)) qs7 (.str v27.Key))]) (fun _=>J) (fun _=>J) (fun _=>J) J J J ?_ ?_
      · exact t_mapEntryP (gk := AV.str) (bo := bo31) (M := l23) (key := v27.Key) J J J J .p0 J<|ARun.nil ⟨_,J,J⟩
      refine AT.am 1 J J<|AM.qv (q_extract J J) J<|AM.nil<|AT.run0 (Ti := [(b4,.mps ((mset (someM l23) v27.Key (mget? l23 v27.Key)).map fun e=>(AV.str e.1,pQ bo31 e.2)) qs7 (.str v27.Key))]) (Pi := [(b4,.mp ((mset l23 v27.Key (l20.length : Int)).map (fun e=>(AV.str e.1,(pA bo31) e.2))))]) (fun _=>J) (fun _=>J) (fun _=>J) J J ?_ ?_
      · exact t_entryStoreP (kt := 9) (gk := AV.str) (bo := bo31) (M := l23) (key := v27.Key) (v' := (l20.length : Int)) J J J J .p0<|ARun.nil ⟨_,J⟩
      refine AT.nilN (fun _=>J) fun β=>ARun.ghost<|ImpX.mpAsk (k := .str v27.Key) (fun _=>.p4) fun qse8=>ImpX.here<|bndE h fun v34 e9 h=>t_mapEntry (gk := AV.str) (gv := I) (M := l24) (key := v27.Key) (Z := (0 : Int)) (v := v34) J J J J J e9 .p4 J<|rX J J J<|t_entryStore (kt := 9) (gk := AV.str) (gv := I) (M := l24) (key := v27.Key) (v := v34) (v' := v33) J J J J .p4<|rN<|tSR<|rM J J<|rM J J<|r_callpB J (campaign_state_ready_c (J : campaign_state_ready (⟨p0x0,mset l23 v27.Key (l20.length : Int),mset l24 v27.Key v33,l25,l8,l10,[],(-1 : Int),p0x0.At,l20 ++ [(⟨(⟨(0 : Int),(0 : Int),v27.Firmware,(0 : Int)⟩ : Standing),(⟨(0 : Int),(0 : Int),(0 : Int)⟩ : Version)⟩ : Campaign_course)]⟩ : Campaign_state) (⟨(⟨(0 : Int),(0 : Int),v27.Firmware,(0 : Int)⟩ : Standing),(⟨(0 : Int),(0 : Int),(0 : Int)⟩ : Version)⟩ : Campaign_course) = _)) (.cons (.boxL _ _ _ .p3 (.cons (.co (.refl _)) (.cons (.co (.refl _)) (.cons (.co (.refl _)) (.cons (CoB.arrT .p5) (.cons (CoB.arrT .p6) (.cons (CoB.arrT .p7) (.cons (.co (.nil _)) (.cons (.co (.refl _)) (.cons (.co (.refl _)) .nil)))))))))) (.cons (CoB.araP' (bp := b1) (kb := kE0) (bs := bs32) (M := (l20 ++ [(⟨(⟨(0 : Int),(0 : Int),v27.Firmware,(0 : Int)⟩ : Standing),(⟨(0 : Int),(0 : Int),(0 : Int)⟩ : Version)⟩ : Campaign_course)])) KB0 (idx_new _ _) .p2) .nil)) J J<|ARun.qv (q_not J) J<|rN<|ATodo.cut (fun σ'=>∃ (l35 : List Int),campaign_newState_j1 l20 l23 l24 n26 v27 v33 l35 = some z1 ∧ σ' = ⟨83,[(0,.rptr [.str p0x0.Key,I p0x0.Target.Major,I p0x0.Target.Minor,I p0x0.Target.Patch,I p0x0.At,lE2 p0x0.Waves,I p0x0.Hours.From,I p0x0.Hours.To,I p0x0.Room]),(6,.ptr b12 0),(30,lE3 p1x0),(31,I (p1x0.length : Int)),(32,I n26)],[(b1,.pool (araE kE0 bo31 bs32 (l20 ++ [(⟨(⟨(0 : Int),(0 : Int),v27.Firmware,(0 : Int)⟩ : Standing),(⟨(0 : Int),(0 : Int),(0 : Int)⟩ : Version)⟩ : Campaign_course)]))),(b12,.cells [.rptr [.str p0x0.Key,I p0x0.Target.Major,I p0x0.Target.Minor,I p0x0.Target.Patch,I p0x0.At,lE2 p0x0.Waves,I p0x0.Hours.From,I p0x0.Hours.To,I p0x0.Room],.mref b4,.mref b5,.sl 1 b7 0 l35.length,.sl 1 b9 0 l8.length,.sl 1 b11 0 l10.length,.nil,I (-1 : Int),I p0x0.At]),(b4,.mp ((mset l23 v27.Key (l20.length : Int)).map (fun e=>(AV.str e.1,(pA bo31) e.2)))),(b5,mE6 (mset l24 v27.Key v33)),(b7,aE0 l35),(b9,aE0 l8),(b11,aE0 l10)]⟩) ?_ ?_
      · refine ATodo.cond J (fun hc=>?_) (fun hc=>?_)
        · exact have h := iteT hc h; ATodo.regionM (id := 9) (A := [0,1,3,7,0,16,48,112,0,256,1008,2047,4095,8191,16383,32767]) 15 mixed J (by kernel_rfl) (by kernel_rfl)<|AM.qv (q_move J) J<|AM.qv (q_nilCheck_ptr J) J<|AM.qv (n_field_ptr J J) J<|AM.qv (q_load_ptr J J .p3 J) J<|AM.qv (q_move J) J<|AM.qv (q_nilCheck_ptr J) J<|AM.qv (n_field_ptr J J) J<|AM.qv (q_load_ptr J J .p3 J) J<|AM.qv (n_field_ptr J J) J<|AM.qv (q_load_ptr J J .p1 J) J<|bndE h fun v36 e10 h=>AM.qv (t_lookup (gk := AV.str) (gv := I) (M := (mset l24 v27.Key v33)) (key := v27.Key) (Z := (0 : Int)) J J .p4 J J J e10 J) J<|bndE h fun v37 e11 h=>AM.qv (t_index_sl J J J e11) J<|AM.qv (t_load_aptr (g := I) J J (.inl .p5) e11 J) J<|AM.qv (q_addw J J) J<|bndE h fun v38 e12 h=>AM.qv (t_index_sl J J J e12) J<|AM.nil<|t_store_aptr1 (g := I) (el' := w64 (v37 + (1 : Int))) J J J J e12 J .p5 J<|ARun.ghost<|ImpX.eqs (s := 69) (av' := .sl 1 b7 0 (l25.set v36.toNat (w64 (v37 + (1 : Int)))).length) J (by rw [List.length_set])<|ImpX.here<|ARun.ghost<|ImpX.eqBox (j := 3) (av' := .sl 1 b7 0 (l25.set v36.toNat (w64 (v37 + (1 : Int)))).length) .p3 J (by rw [List.length_set]) J<|ImpX.here<|rN<|ATodo.stop<|ImpX.lq [2,2,0,1,1,1,1] ⟨l25.set v36.toNat (w64 (v37 + (1 : Int))),h,J⟩ J J
        · exact have h := iteFb hc h; tK<|ATodo.stop<|ImpX.lq [2,2,0,1,1,1,1] ⟨l25,h,J⟩ J J
      · rintro σ' ⟨l35, h, rfl⟩
        unfold campaign_newState_j1 at h
        refine ATodo.blk<|tR<|ARun.qv (q_addw J J) J<|rM J J<|rN<|ATodo.stop<|?_
        obtain rfl := Option.some.inj h
        exact hJ1 _ _ J<|ImpX.lq [0,0,0,0,0,0,0] ⟨bo31,bs32,J⟩ J J
    · refine have h := iteF hc h; ATodo.exit J<|have h := outL h hA1; tSR<|rM J J<|rA J J<|rN<|ATodo.ret<|?_
      obtain rfl := Option.some.inj h
      exact ImpX.arrBox (j := 6) 1 (fun _=>.p1) J (fun _=>J) (fun _=>J) fun b39=>ImpX.here ⟨_,.cons (.tmp _ _ J) .nil,_,.cons .p2 (.cons .p2 (.cons .p2 (.cons .p2 (.cons .p2 (.cons .p2 (.cons .p0 (.cons .p0 .nil))))))),⟨b12,b4,b5,b7,b9,b11,b39,b1,bo21,bs22,J,J⟩⟩

end Go.Proofs.YtpibecbdhjbanaaGreatDoor

