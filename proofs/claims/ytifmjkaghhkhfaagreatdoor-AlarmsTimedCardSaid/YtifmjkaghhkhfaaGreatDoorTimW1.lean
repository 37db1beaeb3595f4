/- The code computes the plain functions: proofs written by shal.py. -/
import Derived.Test.YtifmjkaghhkhfaaGreatDoorTimP
import Derived.Test.YtifmjkaghhkhfaaGreatDoorLib
set_option maxHeartbeats 4000000
set_option maxRecDepth 100000
set_option linter.unusedVariables false
set_option linter.unusedSimpArgs false
namespace Go.Proofs.YtifmjkaghhkhfaaGreatDoor
open Go Go.Eng Go.Proofs Go.Beacon
attribute [local irreducible] ARun ATodo AQ QV ACall ImpX AWp AM
instance eqg58 : EqGd Tryz.prog 58 := ⟨by kernel_rfl⟩
instance eqt58 : EqTy Tryz.prog 58 2 Alarm.av := ⟨fun x y w S v u hv hu=>by
  obtain ⟨vs, rfl, hl, ha⟩ := At.agg_inv hv
  obtain ⟨us, rfl, hl', ha'⟩ := At.agg_inv hu
  obtain ⟨v0, p0, q0⟩ := AtA.get hl ha (off := 0) rfl
  obtain ⟨u0, p0', q0'⟩ := AtA.get hl' ha' (off := 0) rfl
  obtain ⟨v1, p1, q1⟩ := AtA.get hl ha (off := 1) rfl
  obtain ⟨u1, p1', q1'⟩ := AtA.get hl' ha' (off := 1) rfl
  obtain ⟨v2, p2, q2⟩ := AtA.get hl ha (off := 2) rfl
  obtain ⟨u2, p2', q2'⟩ := AtA.get hl' ha' (off := 2) rfl
  obtain ⟨v3, p3, q3⟩ := AtA.get hl ha (off := 3) rfl
  obtain ⟨u3, p3', q3'⟩ := AtA.get hl' ha' (off := 3) rfl
  obtain ⟨v4, p4, q4⟩ := AtA.get hl ha (off := 4) rfl
  obtain ⟨u4, p4', q4'⟩ := AtA.get hl' ha' (off := 4) rfl
  obtain ⟨v5, p5, q5⟩ := AtA.get hl ha (off := 5) rfl
  obtain ⟨u5, p5', q5'⟩ := AtA.get hl' ha' (off := 5) rfl
  refine EqR.cast (EqR.struct Tryz.underlying58 (by kernel_rfl) (.cons (by decide) (part_one J p0) (part_one J p0') (EqR.up (EqTy.h (g := AV.str) x.Device y.Device w S _ _ q0 q0') 0)  (.cons (by decide) (part_one J p1) (part_one J p1') (EqR.up (EqTy.h (g := AV.str) x.Rule y.Rule w S _ _ q1 q1') 0)  (.cons (by decide) (part_one J p2) (part_one J p2') (EqR.up (EqTy.h (g := I) x.State y.State w S _ _ q2 q2') 0)  (.cons (by decide) (part_one J p3) (part_one J p3') (EqR.up (EqTy.h (g := I) x.Since y.Since w S _ _ q3 q3') 0)  (.cons (by decide) (part_one J p4) (part_one J p4') (EqR.up (EqTy.h (g := I) x.Raised y.Raised w S _ _ q4 q4') 0)  (.cons (by decide) (part_one J p5) (part_one J p5') (EqR.up (EqTy.h (g := I) x.Shelved y.Shelved w S _ _ q5 q5') 0) .nil))))))) ?_
  obtain ⟨_, _, _, _, _, _⟩ := x
  obtain ⟨_, _, _, _, _, _⟩ := y
  rw [Bool.eq_iff_iff]; simp [and_assoc]⟩
instance eqg71 : EqGd Tryz.prog 71 := ⟨by kernel_rfl⟩
instance eqt71 : EqTy Tryz.prog 71 2 Window.av := ⟨fun x y w S v u hv hu=>by
  obtain ⟨vs, rfl, hl, ha⟩ := At.agg_inv hv
  obtain ⟨us, rfl, hl', ha'⟩ := At.agg_inv hu
  obtain ⟨v0, p0, q0⟩ := AtA.get hl ha (off := 0) rfl
  obtain ⟨u0, p0', q0'⟩ := AtA.get hl' ha' (off := 0) rfl
  obtain ⟨v1, p1, q1⟩ := AtA.get hl ha (off := 1) rfl
  obtain ⟨u1, p1', q1'⟩ := AtA.get hl' ha' (off := 1) rfl
  refine EqR.cast (EqR.struct Tryz.underlying71 (by kernel_rfl) (.cons (by decide) (part_one J p0) (part_one J p0') (EqR.up (EqTy.h (g := I) x.From y.From w S _ _ q0 q0') 0)  (.cons (by decide) (part_one J p1) (part_one J p1') (EqR.up (EqTy.h (g := I) x.To y.To w S _ _ q1 q1') 0) .nil))) ?_
  obtain ⟨_, _⟩ := x
  obtain ⟨_, _⟩ := y
  rw [Bool.eq_iff_iff]; simp [and_assoc]⟩
instance eqg157 : EqGd Tryz.prog 157 := ⟨by kernel_rfl⟩
instance eqt157 : EqTy Tryz.prog 157 2 Alarm_name.av := ⟨fun x y w S v u hv hu=>by
  obtain ⟨vs, rfl, hl, ha⟩ := At.agg_inv hv
  obtain ⟨us, rfl, hl', ha'⟩ := At.agg_inv hu
  obtain ⟨v0, p0, q0⟩ := AtA.get hl ha (off := 0) rfl
  obtain ⟨u0, p0', q0'⟩ := AtA.get hl' ha' (off := 0) rfl
  obtain ⟨v1, p1, q1⟩ := AtA.get hl ha (off := 1) rfl
  obtain ⟨u1, p1', q1'⟩ := AtA.get hl' ha' (off := 1) rfl
  refine EqR.cast (EqR.struct Tryz.underlying157 (by kernel_rfl) (.cons (by decide) (part_one J p0) (part_one J p0') (EqR.up (EqTy.h (g := AV.str) x.device_ y.device_ w S _ _ q0 q0') 0)  (.cons (by decide) (part_one J p1) (part_one J p1') (EqR.up (EqTy.h (g := AV.str) x.rule_ y.rule_ w S _ _ q1 q1') 0) .nil))) ?_
  obtain ⟨_, _⟩ := x
  obtain ⟨_, _⟩ := y
  rw [Bool.eq_iff_iff]; simp [and_assoc]⟩
instance mky157 : MKey Tryz.prog 157 Alarm_name.av := MKey.struct (n := 2) J Tryz.underlying157 (fun f hf=>by
  simp only [List.mem_cons,List.not_mem_nil,or_false] at hf
  rcases hf with rfl | rfl
  · exact ⟨_,TUnder.h (P := Tryz.prog) (t := 9),J,by decide⟩
  · exact ⟨_,TUnder.h (P := Tryz.prog) (t := 9),J,by decide⟩) (fun x=>⟨_,J,J,fun c hc=>by
  simp only [List.mem_cons,List.not_mem_nil,or_false] at hc
  rcases hc with rfl | rfl <;> rfl⟩) (fun a b h => by
  obtain ⟨_, _⟩ := a
  obtain ⟨_, _⟩ := b
  simpa [Alarm_name.av] using h)
instance eqg251 : EqGd Tryz.prog 251 := ⟨by kernel_rfl⟩
instance eqt251 : EqTy Tryz.prog 251 3 Alarm_seen.av := ⟨fun x y w S v u hv hu=>by
  obtain ⟨vs, rfl, hl, ha⟩ := At.agg_inv hv
  obtain ⟨us, rfl, hl', ha'⟩ := At.agg_inv hu
  obtain ⟨v1, p1, q1⟩ := AtA.get hl ha (off := 6) rfl
  obtain ⟨u1, p1', q1'⟩ := AtA.get hl' ha' (off := 6) rfl
  refine EqR.cast (EqR.struct Tryz.underlying251 (by kernel_rfl) (.cons (by decide) (part_agg J J) (part_agg J J) (EqR.up (EqTy.h (g := Alarm.av) x.alarm_ y.alarm_ w S _ _ (AtA.sub hl ha 0 6 (Nat.le_of_ble_eq_true J)) (AtA.sub hl' ha' 0 6 (Nat.le_of_ble_eq_true J))) 0)  (.cons (by decide) (part_one J p1) (part_one J p1') (EqR.up (EqTy.h (g := AV.bool) x.is_ y.is_ w S _ _ q1 q1') 1) .nil))) ?_
  obtain ⟨_, _⟩ := x
  obtain ⟨_, _⟩ := y
  rw [Bool.eq_iff_iff]; simp [and_assoc]⟩
abbrev lE0 (xs : List Int) : AV := .list 1 (xs.map I)
abbrev lE1 (xs : List Str) : AV := .list 1 (xs.map AV.str)
abbrev aE2 (xs : List Signal) : Ob := .arr 6 (xs.map Signal.av)
abbrev lE2 (xs : List Signal) : AV := .list 6 (xs.map Signal.av)
abbrev cE0 (x : Signal) : List AV := [I x.At,I x.Kind,.str x.Device,.str x.Rule,.str x.By,I x.Until]
abbrev fE0 (x : Alarm_life) : List AV := [.str x.name_.device_,.str x.name_.rule_,I x.state_,I x.since_,.list 1 (x.raises_.map I),I x.shelved_,.list 2 (x.up_.map Window.av),.list 2 (x.fresh_.map Window.av),.list 2 (x.aside_.map Window.av),.list 1 (x.acks_.map I),.list 1 (x.waits_.map I)]
abbrev kE0 (b : Bk) (s : Nat → Bk) (x : Alarm_life) : List (Bk × PO) := [(b,.cells [.str x.name_.device_,.str x.name_.rule_,I x.state_,I x.since_,.sl 1 (s 0) 0 x.raises_.length,I x.shelved_,.sl 2 (s 1) 0 x.up_.length,.sl 2 (s 2) 0 x.fresh_.length,.sl 2 (s 3) 0 x.aside_.length,.sl 1 (s 4) 0 x.acks_.length,.sl 1 (s 5) 0 x.waits_.length]),(s 0,.arr 1 (x.raises_.map I)),(s 1,.arr 2 (x.up_.map Window.av)),(s 2,.arr 2 (x.fresh_.map Window.av)),(s 3,.arr 2 (x.aside_.map Window.av)),(s 4,.arr 1 (x.acks_.map I)),(s 5,.arr 1 (x.waits_.map I))]
theorem KB0 : KB kE0 fE0 := ⟨⟨fun x=>[.v (.str x.name_.device_),.v (.str x.name_.rule_),.v (I x.state_),.v (I x.since_),.l 1 I x.raises_,.v (I x.shelved_),.l 2 Window.av x.up_,.l 2 Window.av x.fresh_,.l 2 Window.av x.aside_,.l 1 I x.acks_,.l 1 I x.waits_],fun _ _ _=>J,fun _=>J⟩⟩
abbrev lE3 (xs : List Window) : AV := .list 2 (xs.map Window.av)
abbrev aE3 (xs : List Window) : Ob := .arr 2 (xs.map Window.av)
abbrev cE1 (x : Alarm_life) (b4 b6 b7 b8 b9 b10 : Bk) : List AV := [.str x.name_.device_,.str x.name_.rule_,I x.state_,I x.since_,.sl 1 b4 0 x.raises_.length,I x.shelved_,.sl 2 b6 0 x.up_.length,.sl 2 b7 0 x.fresh_.length,.sl 2 b8 0 x.aside_.length,.sl 1 b9 0 x.acks_.length,.sl 1 b10 0 x.waits_.length]
abbrev aE0 (xs : List Int) : Ob := .arr 1 (xs.map I)
abbrev fE1 (x : Fleetref1_track) : List AV := [.str x.device_,.str x.rule_,.list 6 (x.done_.map Signal.av),I x.state_,I x.shelved_.From,I x.shelved_.To]
abbrev kE1 (b : Bk) (s : Nat → Bk) (x : Fleetref1_track) : List (Bk × PO) := [(b,.cells [.str x.device_,.str x.rule_,.sl 6 (s 0) 0 x.done_.length,I x.state_,I x.shelved_.From,I x.shelved_.To]),(s 0,.arr 6 (x.done_.map Signal.av))]
theorem KB1 : KB kE1 fE1 := ⟨⟨fun x=>[.v (.str x.device_),.v (.str x.rule_),.l 6 Signal.av x.done_,.v (I x.state_),.v (I x.shelved_.From),.v (I x.shelved_.To)],fun _ _ _=>J,fun _=>J⟩⟩
abbrev lE4 (xs : List Fleetref1_track) : AV := .list 1 (xs.map (fun x=>AV.rptr (fE1 x)))
abbrev aE5 (xs : List Refused) : Ob := .arr 2 (xs.map Refused.av)
abbrev aE6 (xs : List Alarm_seen) : Ob := .arr 7 (xs.map Alarm_seen.av)
abbrev aE7 (xs : List Alarm) : Ob := .arr 6 (xs.map Alarm.av)
abbrev lE7 (xs : List Alarm) : AV := .list 6 (xs.map Alarm.av)
theorem Below_c [GI : GTab] {p0x0 : Int} {p1x0 : Int} {r : Int} (h : Below p0x0 p1x0 = some r) : Pu Tryz.prog 75 [I p0x0,I p1x0] (I r) := by
  unfold Below at h
  refine ACall.bodyN Tryz.func75 J Tryz.ntmps75 Tryz.results75 J J ?_
  refine tSR<|rA J J<|rN<|tS<|tSR<|rM J J<|ARun.qv (q_lss J J) J<|rN<|ATodo.cond_d J (fun hc=>?_) (fun hc=>?_)
  · refine have h := iteT hc h; tSR<|rA J J<|rN<|ATodo.ret<|?_
    obtain rfl := Option.some.inj h
    exact ImpX.here ⟨_,.cons (.tmp _ _ J) .nil,J⟩
  · refine have h := iteF hc h; tK<|tSR<|rM J J<|rM J J<|bndE h fun n1 e1 h=>ARun.qv (t_remS J J e1) J<|rA J J<|rN<|tS<|tSR<|rM J J<|ARun.qv (q_lss J J) J<|rN<|ATodo.cut (fun σ'=>∃ (n2 : Int),Below_j1 n2 = some r ∧ σ' = ⟨16,[(0,I n2)],[]⟩) ?_ ?_
    · refine ATodo.cond_d J (fun hc=>?_) (fun hc=>?_)
      · exact have h := iteT hc h; tR<|rM J J<|rM J J<|ARun.qv (q_addw J J) J<|rA J J<|rN<|ATodo.stop<|ImpX.lq [] ⟨w64 (n1 + p1x0),h,J⟩ J J
      · exact have h := iteF hc h; tK<|ATodo.stop<|ImpX.lq [] ⟨n1,h,J⟩ J J
    · rintro σ' ⟨n2, h, rfl⟩
      unfold Below_j1 at h
      refine tSR<|rM J J<|rA J J<|rN<|ATodo.ret<|?_
      obtain rfl := Option.some.inj h
      exact ImpX.here ⟨_,.cons (.tmp _ _ J) .nil,J⟩

theorem Stream_Next_c [GI : GTab] {b_0 : Bk} {p0x0 : Fleetmake_Stream} {p1x0 : Int} {r : Int × Fleetmake_Stream} (h : Stream_Next p0x0 p1x0 = some r) : ACall Tryz.prog 13 [.ptr b_0 0,I p1x0] [(b_0,.cells [lE0 p0x0.L,I p0x0.at_])] (T0 ([(b_0,.cells [lE0 r.2.L,I r.2.at_])]) (I r.1)) := by
  unfold Stream_Next at h
  refine ACall.lessH ?_
  refine ACall.bodyN Tryz.func13 J Tryz.ntmps13 Tryz.results13 J J ?_
  refine tSR<|rA J J<|rN<|tSR<|rM J J<|ARun.qv (q_nilCheck_ptr J) J<|rF J J J<|rL J J .p0 J J<|ARun.qv (q_addw J J) J<|ARun.qv (q_nilCheck_ptr J) J<|rF J J J<|n_store_ptr J J J J .p0 J J<|rN<|tS<|tSR<|rM J J<|ARun.qv (q_nilCheck_ptr J) J<|rF J J J<|rL J J .p0 J J<|ARun.qv (t_len J) J<|ARun.qv (q_eql J J) J<|rN<|ATodo.cond_d J (fun hc=>?_) (fun hc=>?_)
  · refine have h := iteT hc h; tSR<|rM J J<|ARun.qv (q_nilCheck_ptr J) J<|rF J J J<|rL J J .p0 J J<|ARun.qv (q_mulw J J) J<|rM J J<|bndE h fun v1 e1 h=>r_callp J (Below_c e1) (CoL.refl _) J<|rA J J<|rN<|ATodo.ret<|?_
    obtain rfl := Option.some.inj h
    exact ImpX.here ⟨_,.cons (.tmp _ _ J) .nil,_,.cons .p0 .nil,⟨J,J⟩⟩
  · refine have h := iteF hc h; tK<|tS<|ATodo.regionM (id := 4) (A := [0,1,3,7,15,0,32,96,224,480,1023,2047]) 12 mixed J (by kernel_rfl) (by kernel_rfl)<|AM.qv (q_move J) J<|AM.qv (q_nilCheck_ptr J) J<|AM.qv (n_field_ptr J J) J<|AM.qv (q_load_ptr J J .p0 J) J<|AM.qv (q_subw J J) J<|AM.qv (q_move J) J<|AM.qv (q_nilCheck_ptr J) J<|AM.qv (n_field_ptr J J) J<|AM.qv (q_load_ptr J J .p0 J) J<|AM.qv (t_len J) J<|bndE h fun n2 e2 h=>AM.qv (t_remS J J e2) J<|AM.qv (q_assign J) J<|AM.nil<|rN<|tS<|ATodo.regionM (id := 5) (A := [0,1,3,7,15,0,32,96,224,480,1023,2047]) 12 mixed J (by kernel_rfl) (by kernel_rfl)<|AM.qv (q_move J) J<|AM.qv (q_nilCheck_ptr J) J<|AM.qv (n_field_ptr J J) J<|AM.qv (q_load_ptr J J .p0 J) J<|AM.qv (q_subw J J) J<|AM.qv (q_move J) J<|AM.qv (q_nilCheck_ptr J) J<|AM.qv (n_field_ptr J J) J<|AM.qv (q_load_ptr J J .p0 J) J<|AM.qv (t_len J) J<|bndE h fun n3 e3 h=>AM.qv (t_quoS J J e3) J<|AM.qv (q_assign J) J<|AM.nil<|rN<|tSR<|rM J J<|ARun.qv (q_nilCheck_ptr J) J<|rF J J J<|rL J J .p0 J J<|rM J J<|bndE h fun v4 e4 h=>ARun.qv (t_index J J J e4 J J) J<|ARun.qv (q_load_rptr J J J) J<|bndE h fun v5 e5 h=>r_callp J (Below_c e5) (CoL.refl _) J<|rM J J<|rM J J<|ARun.qv (q_addw J J) J<|ARun.qv (q_mulw J J) J<|ARun.qv (q_addw J J) J<|rM J J<|bndE h fun v6 e6 h=>r_callp J (Below_c e6) (CoL.refl _) J<|rA J J<|rN<|ATodo.ret<|?_
    obtain rfl := Option.some.inj h
    exact ImpX.here ⟨_,.cons (.tmp _ _ J) .nil,_,.cons .p0 .nil,⟨J,J⟩⟩

theorem Stream_Range_c [GI : GTab] {b_0 : Bk} {p0x0 : Fleetmake_Stream} {p1x0 : Int} {p2x0 : Int} {r : Int × Fleetmake_Stream} (h : Stream_Range p0x0 p1x0 p2x0 = some r) : ACall Tryz.prog 8 [.ptr b_0 0,I p1x0,I p2x0] [(b_0,.cells [lE0 p0x0.L,I p0x0.at_])] (T0 ([(b_0,.cells [lE0 r.2.L,I r.2.at_])]) (I r.1)) := by
  unfold Stream_Range at h
  refine ACall.lessH ?_
  refine ACall.bodyN Tryz.func8 J Tryz.ntmps8 Tryz.results8 J J ?_
  refine tSR<|rA J J<|rN<|tS<|tSR<|rM J J<|rM J J<|ARun.qv (q_lss J J) J<|rN<|ATodo.cond_d J (fun hc=>?_) (fun hc=>?_)
  · refine have h := iteT hc h; tSR<|rM J J<|rA J J<|rN<|ATodo.ret<|?_
    obtain rfl := Option.some.inj h
    exact ImpX.here ⟨_,.cons (.tmp _ _ J) .nil,_,.cons .p0 .nil,⟨J,J⟩⟩
  · refine have h := iteF hc h; tK<|tSR<|rM J J<|rM J J<|rM J J<|rM J J<|ARun.qv (q_subw J J) J<|ARun.qv (q_addw J J) J<|bndE h fun v1 e1 h=>t_call0 J (Stream_Next_c e1) (CoL.refl _) (.cons .p0 .nil) J J<|ARun.qv (q_addw J J) J<|rA J J<|rN<|ATodo.ret<|?_
    obtain rfl := Option.some.inj h
    exact ImpX.here ⟨_,.cons (.tmp _ _ J) .nil,_,.cons .p0 .nil,⟨J,J⟩⟩

theorem Stream_Pick_c [GI : GTab] {b_0 : Bk} {p0x0 : Fleetmake_Stream} {p1x0 : List Int} {r : Int × Fleetmake_Stream} (h : Stream_Pick p0x0 p1x0 = some r) : ACall Tryz.prog 69 [.ptr b_0 0,lE0 p1x0] [(b_0,.cells [lE0 p0x0.L,I p0x0.at_])] (T0 ([(b_0,.cells [lE0 r.2.L,I r.2.at_])]) (I r.1)) := by
  unfold Stream_Pick at h
  refine ACall.lessH ?_
  refine ACall.bodyN Tryz.func69 J Tryz.ntmps69 Tryz.results69 J J ?_
  refine tSR<|rA J J<|rN<|tSR<|rM J J<|rM J J<|rM J J<|ARun.qv (t_len J) J<|bndE h fun v1 e1 h=>t_call0 J (Stream_Next_c e1) (CoL.refl _) (.cons .p0 .nil) J J<|bndE h fun v2 e2 h=>ARun.qv (t_index J J J e2 J J) J<|ARun.qv (q_load_rptr J J J) J<|rA J J<|rN<|ATodo.ret<|?_
  obtain rfl := Option.some.inj h
  exact ImpX.here ⟨_,.cons (.tmp _ _ J) .nil,_,.cons .p0 .nil,⟨J,J⟩⟩

theorem Stream_Some_c [GI : GTab] {b_0 : Bk} {p0x0 : Fleetmake_Stream} {p1x0 : List Str} {r : Str × Fleetmake_Stream} (h : Stream_Some p0x0 p1x0 = some r) : ACall Tryz.prog 11 [.ptr b_0 0,lE1 p1x0] [(b_0,.cells [lE0 p0x0.L,I p0x0.at_])] (T0 ([(b_0,.cells [lE0 r.2.L,I r.2.at_])]) (.str r.1)) := by
  unfold Stream_Some at h
  refine ACall.lessH ?_
  refine ACall.bodyN Tryz.func11 J Tryz.ntmps11 Tryz.results11 J J ?_
  refine tSR<|rA J J<|rN<|tSR<|rM J J<|rM J J<|rM J J<|ARun.qv (t_len J) J<|bndE h fun v1 e1 h=>t_call0 J (Stream_Next_c e1) (CoL.refl _) (.cons .p0 .nil) J J<|bndE h fun v2 e2 h=>ARun.qv (t_index J J J e2 J J) J<|ARun.qv (q_load_rptr J J J) J<|rA J J<|rN<|ATodo.ret<|?_
  obtain rfl := Option.some.inj h
  exact ImpX.here ⟨_,.cons (.tmp _ _ J) .nil,_,.cons .p0 .nil,⟨J,J⟩⟩

theorem cmp_isNaN_int_c [GI : GTab] {p0x0 : Int} {r : Bool} (h : cmp_isNaN_int p0x0 = r) : Pu Tryz.prog 148 [I p0x0] (.bool r) := by
  unfold cmp_isNaN_int at h
  refine ACall.bodyN Tryz.func148 J Tryz.ntmps148 Tryz.results148 J J ?_
  refine tSR<|rA J J<|rN<|tSR<|rM J J<|rM J J<|ARun.qv (q_neq J J) J<|rA J J<|rN<|ATodo.ret<|?_
  obtain rfl := h
  exact ImpX.here ⟨_,.cons (.tmp _ _ J) .nil,J⟩

theorem cmp_Compare_int_c [GI : GTab] {p0x0 : Int} {p1x0 : Int} {r : Int} (h : cmp_Compare_int p0x0 p1x0 = r) : Pu Tryz.prog 86 [I p0x0,I p1x0] (I r) := by
  unfold cmp_Compare_int at h
  refine ACall.bodyN Tryz.func86 J Tryz.ntmps86 Tryz.results86 J J ?_
  refine tSR<|rA J J<|rN<|tSR<|rM J J<|r_callp J (cmp_isNaN_int_c J) (CoL.refl _) J<|rA J J<|rN<|tSR<|rM J J<|r_callp J (cmp_isNaN_int_c J) (CoL.refl _) J<|rA J J<|rN<|tS<|tSR<|rM J J<|rN<|ATodo.cond J (fun hc=>?_) (fun hc=>?_)
  · refine have h := iteT hc h; tS<|tSR<|rM J J<|rN<|ATodo.cond J (fun hc=>?_) (fun hc=>?_)
    · refine have h := iteT hc h; tSR<|rA J J<|rN<|ATodo.ret<|?_
      obtain rfl := h
      exact ImpX.here ⟨_,.cons (.tmp _ _ J) .nil,J⟩
    · refine have h := iteFb hc h; tK<|tSR<|rA J J<|rN<|ATodo.ret<|?_
      obtain rfl := h
      exact ImpX.here ⟨_,.cons (.tmp _ _ J) .nil,J⟩
  · refine have h := iteFb hc h; tK<|tS<|tSR<|rM J J<|rN<|ATodo.cond J (fun hc=>?_) (fun hc=>?_)
    · refine have h := iteT hc h; tSR<|rA J J<|rN<|ATodo.ret<|?_
      obtain rfl := h
      exact ImpX.here ⟨_,.cons (.tmp _ _ J) .nil,J⟩
    · refine have h := iteFb hc h; tK<|tS<|tSR<|rM J J<|rM J J<|ARun.qv (q_lss J J) J<|rN<|ATodo.cond_d J (fun hc=>?_) (fun hc=>?_)
      · refine have h := iteT hc h; tSR<|rA J J<|rN<|ATodo.ret<|?_
        obtain rfl := h
        exact ImpX.here ⟨_,.cons (.tmp _ _ J) .nil,J⟩
      · refine have h := iteF hc h; tK<|tS<|tSR<|rM J J<|rM J J<|ARun.qv (q_gtr J J) J<|rN<|ATodo.cond_d J (fun hc=>?_) (fun hc=>?_)
        · refine have h := iteT hc h; tSR<|rA J J<|rN<|ATodo.ret<|?_
          obtain rfl := h
          exact ImpX.here ⟨_,.cons (.tmp _ _ J) .nil,J⟩
        · refine have h := iteF hc h; tK<|tSR<|rA J J<|rN<|ATodo.ret<|?_
          obtain rfl := h
          exact ImpX.here ⟨_,.cons (.tmp _ _ J) .nil,J⟩

theorem cmp_Or_int_c [GI : GTab] {p0x0 : List Int} {r : Int} (h : cmp_Or_int p0x0 = some r) : Pu Tryz.prog 84 [lE0 p0x0] (I r) := by
  unfold cmp_Or_int at h
  refine ACall.bodyN Tryz.func84 J Tryz.ntmps84 Tryz.results84 J J ?_
  refine tSR<|rA J J<|rN<|tSR<|rA J J<|rN<|tS<|tSR<|rM J J<|ARun.qv (t_len J) J<|rM J J<|rN<|ATodo.block<|ATodo.loopI (fun x : Int=>cmp_Or_int_b1 p0x0 x) (fun x σ'=>σ' = ⟨18,[(3,I (0 : Int)),(6,lE0 p0x0),(7,I (p0x0.length : Int)),(8,I x)],[]⟩) h ?_ ?_
  · exact ImpX.lq [] J J J
  · intro n2 z1 σ' J1 hmk h hJ1 hA1
    obtain rfl := hmk
    replace h : cmp_Or_int_b1 p0x0 n2 = some z1 := h
    unfold cmp_Or_int_b1 at h
    refine tSR<|ARun.qv (q_lss J J) J<|rN<|tS<|ATodo.cond_d J (fun hc=>?_) (fun hc=>?_)
    · refine have h := iteT hc h; tK<|tS<|ATodo.block<|tSR<|bndE h fun v3 e1 h=>ARun.qv (t_index J J J e1 J J) J<|ARun.qv (q_load_rptr J J J) J<|rA J J<|rN<|tSR<|rM J J<|rM J J<|ARun.qv (q_neq J J) J<|rN<|ATodo.cond_d J (fun hc=>?_) (fun hc=>?_)
      · refine have h := iteT hc h; tSR<|rM J J<|rA J J<|rN<|ATodo.ret<|have h := outL h hA1; ?_
        obtain rfl := Option.some.inj h
        exact ImpX.here ⟨_,.cons (.tmp _ _ J) .nil,J⟩
      · refine have h := iteF hc h; tK<|ATodo.blk<|tR<|ARun.qv (q_addw J J) J<|rM J J<|rN<|ATodo.stop<|?_
        obtain rfl := Option.some.inj h
        exact hJ1 _ _ J<|ImpX.lq [] J J J
    · refine have h := iteF hc h; ATodo.exit J<|have h := outL h hA1; tSR<|rM J J<|rA J J<|rN<|ATodo.ret<|?_
      obtain rfl := Option.some.inj h
      exact ImpX.here ⟨_,.cons (.tmp _ _ J) .nil,J⟩

theorem Q_SignalOrder_c [GI : GTab] {p0x0 : Signal} {p1x0 : Signal} {r : Int} (h : Q_SignalOrder p0x0 p1x0 = some r) : Pu Tryz.prog 71 [Signal.av p0x0,Signal.av p1x0] (I r) := by
  unfold Q_SignalOrder at h
  refine ACall.bodyN Tryz.func71 J Tryz.ntmps71 Tryz.results71 J J ?_
  refine tSR<|n_box J J J J fun b1=>n_box J J J J fun b2=>rA J J<|rN<|tS<|ATodo.regionM (id := 1) (A := [0,1,0,4,15,0,32,0,128,511,0,1024,0,4096,16383,0,32768,0,131072,524287,1048575,2097151,4194303]) 23 mixed J (by kernel_rfl) (by kernel_rfl)<|AM.qv (n_field_ptr J J) J<|AM.qv (q_load_ptr J J .p1 J) J<|AM.qv (n_field_ptr J J) J<|AM.qv (q_load_ptr J J .p0 J) J<|AM.callp J (cmp_Compare_int_c J) (CoL.refl _) J<|AM.qv (n_field_ptr J J) J<|AM.qv (q_load_ptr J J .p1 J) J<|AM.qv (n_field_ptr J J) J<|AM.qv (q_load_ptr J J .p0 J) J<|AM.callp J (strings_Compare_c J) (CoL.refl _) J<|AM.qv (n_field_ptr J J) J<|AM.qv (q_load_ptr J J .p1 J) J<|AM.qv (n_field_ptr J J) J<|AM.qv (q_load_ptr J J .p0 J) J<|AM.callp J (strings_Compare_c J) (CoL.refl _) J<|AM.qv (n_field_ptr J J) J<|AM.qv (q_load_ptr J J .p1 J) J<|AM.qv (n_field_ptr J J) J<|AM.qv (q_load_ptr J J .p0 J) J<|AM.callp J (cmp_Compare_int_c J) (CoL.refl _) J<|AM.buildSliceL (xs := ([(cmp_Compare_int p0x0.At p1x0.At),(Lib.compareBytes p0x0.Device p1x0.Device),(Lib.compareBytes p0x0.Rule p1x0.Rule),(cmp_Compare_int p0x0.Kind p1x0.Kind)] : List Int).map I) J J J J J J<|bndE h fun v3 e1 h=>AM.callp J (cmp_Or_int_c e1) (CoL.refl _) J<|AM.qv (q_assign J) J<|AM.nil<|rN<|ATodo.ret<|?_
  obtain rfl := Option.some.inj h
  exact ImpX.here ⟨_,.cons (.tmp _ _ J) .nil,J⟩

theorem slices_insertionSortCmpFunc_Signal_c [GI : GTab] {b_0 : Bk} {p0x0 : List Signal} {p1x0 : Int} {p2x0 : Int} {fnd : Signal → Signal → Option Int} {fnd_F : FuncId} [IsFn Tryz.prog fnd_F] {fnd_C : List AV} (fnd_h : ∀ {y0 y1 : _} {u : Int},fnd y0 y1 = some u → Pu Tryz.prog fnd_F (Signal.av y0 :: Signal.av y1 ::  fnd_C) (I u)) {r : (List Signal)} (h : slices_insertionSortCmpFunc_Signal p0x0 p1x0 p2x0 fnd = some r) : ACall Tryz.prog 184 [.sl 6 b_0 0 p0x0.length,I p1x0,I p2x0,.func (.func fnd_F) fnd_C] [(b_0,aE2 p0x0)] (T0 ([(b_0,aE2 r)]) (.tup [])) := by
  unfold slices_insertionSortCmpFunc_Signal at h
  refine ACall.lessH ?_
  refine ACall.bodyN Tryz.func184 J Tryz.ntmps184 Tryz.results184 J J ?_
  refine tSR<|rM J J<|ARun.qv (q_addw J J) J<|rA J J<|rN<|ATodo.block<|ATodo.loopI (fun x : (List Signal) × Int=>slices_insertionSortCmpFunc_Signal_b1 p1x0 p2x0 fnd x.1 x.2) (fun x σ'=>σ' = ⟨53,[(0,.sl 6 b_0 0 x.1.length),(1,I p1x0),(2,I p2x0),(3,.func (.func fnd_F) fnd_C),(8,I x.2)],[(b_0,aE2 x.1)]⟩) h ?_ ?_
  · exact ImpX.lq [0] J J J
  · intro x z1 σ' J1 hmk h hJ1 hA1
    obtain ⟨l3, n4⟩ := x
    obtain rfl := hmk
    replace h : slices_insertionSortCmpFunc_Signal_b1 p1x0 p2x0 fnd l3 n4 = some z1 := h
    unfold slices_insertionSortCmpFunc_Signal_b1 at h
    refine tS<|tSR<|rM J J<|rM J J<|ARun.qv (q_lss J J) J<|rN<|ATodo.cond_d J (fun hc=>?_) (fun hc=>?_)
    · refine have h := iteT hc h; tK<|tS<|ATodo.block<|tSR<|rM J J<|rA J J<|rN<|ATodo.block<|ATodo.loopI (fun x : (List Signal) × Int=>slices_insertionSortCmpFunc_Signal_b2 p1x0 fnd n4 x.1 x.2) (fun x σ'=>σ' = ⟨53,[(0,.sl 6 b_0 0 x.1.length),(1,I p1x0),(2,I p2x0),(3,.func (.func fnd_F) fnd_C),(8,I n4),(9,I x.2)],[(b_0,aE2 x.1)]⟩) h ?_ ?_
      · exact ImpX.lq [0] J J J
      · intro x z2 σ' J2 hmk h hJ2 hA2
        obtain ⟨l7, n8⟩ := x
        obtain rfl := hmk
        replace h : slices_insertionSortCmpFunc_Signal_b2 p1x0 fnd n4 l7 n8 = some z2 := h
        unfold slices_insertionSortCmpFunc_Signal_b2 at h
        refine tS<|tS<|ATodo.cut (fun σ'=>∃ (c9 : Bool),slices_insertionSortCmpFunc_Signal_j1 n4 l7 n8 c9 = some z2 ∧ σ' = ⟨53,[(0,.sl 6 b_0 0 l7.length),(1,I p1x0),(2,I p2x0),(3,.func (.func fnd_F) fnd_C),(8,I n4),(9,I n8),(34,.bool c9)],[(b_0,aE2 l7)]⟩) ?_ ?_
        · refine ATodo.regionM (id := 4) (A := [0,0,3,7,15,15,15,111,239,15,15,1039,3599,7695,16383,32767,65535]) 17 mixed J (by kernel_rfl) (by kernel_rfl)<|AM.qv (q_move J) J<|AM.qv (q_move J) J<|AM.qv (q_gtr J J) J<|AM.qv (q_move J) J<|AM.guard_dt J J J (fun hc=>?_) (fun hc=>?_)
          · exact have h := iteT hc h; AM.qv (q_move J) J<|AM.guard_yes J J J<|AM.qv (q_move J) J<|AM.guard_yes J J J<|AM.qv (q_move J) J<|AM.guard_yes J J J<|bndE h fun v10 e1 h=>AM.qv (t_index_sl J J J e1) J<|AM.guard_yes J J J<|AM.qv (t_load_aptr_agg (g := Signal.av) J J (.inl .p0) J e1 J) J<|AM.guard_yes J J J<|AM.qv (q_move J) J<|AM.guard_yes J J J<|AM.qv (q_move J) J<|AM.guard_yes J J J<|AM.qv (q_subw J J) J<|AM.guard_yes J J J<|bndE h fun v11 e2 h=>AM.qv (t_index_sl J J J e2) J<|AM.guard_yes J J J<|AM.qv (t_load_aptr_agg (g := Signal.av) J J (.inl .p0) J e2 J) J<|AM.guard_yes J J J<|bndE h fun v12 e3 h=>AM.callvp J J (fnd_h e3) (CoL.refl _) J<|AM.guard_yes J J J<|AM.qv (q_lss J J) J<|AM.qv (q_pick_t J J) J<|AM.nil<|rN<|ATodo.stop<|ImpX.lq [0] ⟨decide (v12 < (0 : Int)),h,J⟩ J J
          · exact have h := iteF hc h; AM.guard_no J J J J<|AM.guard_no J J J J<|AM.guard_no J J J J<|AM.guard_no J J J J<|AM.guard_no J J J J<|AM.guard_no J J J J<|AM.guard_no J J J J<|AM.guard_no J J J J<|AM.guard_no J J J J<|AM.guard_no J J J J<|AM.guard_no J J J J<|AM.qv (q_pick_f J J) J<|AM.nil<|rN<|ATodo.stop<|ImpX.lq [0] ⟨false,h,J⟩ J J
        · rintro σ' ⟨c9, h, rfl⟩
          unfold slices_insertionSortCmpFunc_Signal_j1 at h
          refine ATodo.cond J (fun hc=>?_) (fun hc=>?_)
          · refine have h := iteT hc h; tK<|tS<|ATodo.block<|bndE h fun v13 e4 h=>bndE h fun v14 e5 h=>bndE h fun v15 e6 h=>ATodo.regionT (id := 6) (A := [0,0,0,0,8,0,0,64,224,480,0,0,3072,7168,16355,32739,65535,131071]) (H0 := [(b_0,aE2 l7)]) (HH := fun β=>[(b_0,aE2 (l7.set n8.toNat v13))]) 16 mixed J (by kernel_rfl) (by kernel_rfl) [⟨none,some 15,[9,13],fun _=>(b_0,aE2 l7),none,[]⟩,⟨some 15,none,[],fun _=>(b_0,aE2 (l7.set n8.toNat v13)),none,[]⟩] [] J (by kernel_rfl) J (.cons .p0 .nil) (fun _=>J)<|AT.am 9 J J<|AM.qv (q_move J) J<|AM.qv (q_move J) J<|AM.qv (q_move J) J<|AM.qv (q_move J) J<|AM.qv (q_subw J J) J<|AM.qv (q_move J) J<|AM.qv (q_move J) J<|AM.qv (q_subw J J) J<|AM.qv (t_index_sl J J J e4) J<|AM.nil<|AT.rd (Rs := [(b_0,aE2 l7)]) (fun _=>J) J (fun _=>J) (fun _=>J) (t_load_aptr_agg (g := Signal.av) J J (.inl .p0) J e4 J) J<|AT.am 3 J J<|AM.qv (q_move J) J<|AM.qv (q_move J) J<|AM.qv (t_index_sl J J J e5) J<|AM.nil<|AT.rd (Rs := [(b_0,aE2 l7)]) (fun _=>J) J (fun _=>J) (fun _=>J) (t_load_aptr_agg (g := Signal.av) J J (.inl .p0) J e5 J) J<|AT.am 1 J J<|AM.qv (t_index_sl J J J e6) J<|AM.nil<|AT.run0 (Ti := [(b_0,aE2 l7)]) (Pi := [(b_0,aE2 (l7.set n8.toNat v13))]) (fun _=>J) (fun _=>J) (fun _=>J) J J ?_ ?_
            · exact t_store_aptr1 (g := Signal.av) (el' := v13) J J J J e6 J .p0 J<|ARun.nil ⟨_,J⟩
            refine AT.nilN (fun _=>J) fun β=>ARun.ghost<|ImpX.eqs (s := 0) (av' := .sl 6 b_0 0 (l7.set n8.toNat v13).length) J (by simp)<|ImpX.here<|ARun.ghost<|ImpX.eqs (s := 37) (av' := .sl 6 b_0 0 (l7.set n8.toNat v13).length) J (by simp)<|ImpX.here<|ARun.ghost<|ImpX.eqs (s := 39) (av' := .sl 6 b_0 0 (l7.set n8.toNat v13).length) J (by simp)<|ImpX.here<|ARun.ghost<|ImpX.eqs (s := 42) (av' := .sl 6 b_0 0 (l7.set n8.toNat v13).length) J (by simp)<|ImpX.here<|ARun.ghost<|ImpX.eqs (s := 47) (av' := .sl 6 b_0 0 (l7.set n8.toNat v13).length) J (by simp)<|ImpX.here<|bndE h fun v16 e7 h=>ARun.qv (t_index_sl J J J e7) J<|t_store_aptr1 (g := Signal.av) (el' := v14) J J J J e7 J .p0 J<|ARun.ghost<|ImpX.eqs (s := 0) (av' := .sl 6 b_0 0 ((l7.set n8.toNat v13).set (w64 (n8 - (1 : Int))).toNat v14).length) J (by rw [List.length_set])<|ImpX.here<|ARun.ghost<|ImpX.eqs (s := 37) (av' := .sl 6 b_0 0 ((l7.set n8.toNat v13).set (w64 (n8 - (1 : Int))).toNat v14).length) J (by rw [List.length_set])<|ImpX.here<|ARun.ghost<|ImpX.eqs (s := 39) (av' := .sl 6 b_0 0 ((l7.set n8.toNat v13).set (w64 (n8 - (1 : Int))).toNat v14).length) J (by rw [List.length_set])<|ImpX.here<|ARun.ghost<|ImpX.eqs (s := 42) (av' := .sl 6 b_0 0 ((l7.set n8.toNat v13).set (w64 (n8 - (1 : Int))).toNat v14).length) J (by rw [List.length_set])<|ImpX.here<|ARun.ghost<|ImpX.eqs (s := 47) (av' := .sl 6 b_0 0 ((l7.set n8.toNat v13).set (w64 (n8 - (1 : Int))).toNat v14).length) J (by rw [List.length_set])<|ImpX.here<|rN<|ATodo.blk<|tR<|rM J J<|ARun.qv (q_subw J J) J<|rA J J<|rN<|ATodo.stop<|?_
            obtain rfl := Option.some.inj h
            exact hJ2 _ _ J<|ImpX.lq [0] J J J
          · refine have h := iteFb hc h; ATodo.exit J<|have h := outL h hA2; ATodo.blk<|tR<|rM J J<|ARun.qv (q_addw J J) J<|rA J J<|rN<|ATodo.stop<|?_
            obtain rfl := Option.some.inj h
            exact hJ1 _ _ J<|ImpX.lq [0] J J J
    · refine have h := iteF hc h; ATodo.exit J<|have h := outL h hA1; ATodo.nil<|?_
      obtain rfl := Option.some.inj h
      exact ImpX.here ⟨_,.nil,_,.cons .p0 .nil,⟨J,J⟩⟩

theorem slices_swapRangeCmpFunc_Signal_c [GI : GTab] {b_0 : Bk} {p0x0 : List Signal} {p1x0 : Int} {p2x0 : Int} {p3x0 : Int} {fne : Signal → Signal → Option Int} {fne_F : FuncId} [IsFn Tryz.prog fne_F] {fne_C : List AV} (fne_h : ∀ {y0 y1 : _} {u : Int},fne y0 y1 = some u → Pu Tryz.prog fne_F (Signal.av y0 :: Signal.av y1 ::  fne_C) (I u)) {r : (List Signal)} (h : slices_swapRangeCmpFunc_Signal p0x0 p1x0 p2x0 p3x0 fne = some r) : ACall Tryz.prog 275 [.sl 6 b_0 0 p0x0.length,I p1x0,I p2x0,I p3x0,.func (.func fne_F) fne_C] [(b_0,aE2 p0x0)] (T0 ([(b_0,aE2 r)]) (.tup [])) := by
  unfold slices_swapRangeCmpFunc_Signal at h
  refine ACall.lessH ?_
  refine ACall.bodyN Tryz.func275 J Tryz.ntmps275 Tryz.results275 J J ?_
  refine tSR<|rA J J<|rN<|ATodo.block<|ATodo.loopI (fun x : (List Signal) × Int=>slices_swapRangeCmpFunc_Signal_b1 p1x0 p2x0 p3x0 x.1 x.2) (fun x σ'=>σ' = ⟨38,[(0,.sl 6 b_0 0 x.1.length),(1,I p1x0),(2,I p2x0),(3,I p3x0),(10,I x.2)],[(b_0,aE2 x.1)]⟩) h ?_ ?_
  · exact ImpX.lq [0] J J J
  · intro x z1 σ' J1 hmk h hJ1 hA1
    obtain ⟨l3, n4⟩ := x
    obtain rfl := hmk
    replace h : slices_swapRangeCmpFunc_Signal_b1 p1x0 p2x0 p3x0 l3 n4 = some z1 := h
    unfold slices_swapRangeCmpFunc_Signal_b1 at h
    refine tS<|tSR<|rM J J<|rM J J<|ARun.qv (q_lss J J) J<|rN<|ATodo.cond_d J (fun hc=>?_) (fun hc=>?_)
    · refine have h := iteT hc h; tK<|tS<|ATodo.block<|bndE h fun v5 e1 h=>bndE h fun v6 e2 h=>bndE h fun v7 e3 h=>ATodo.regionT (id := 3) (A := [0,0,0,6,0,0,0,96,0,0,0,1536,3840,7936,0,0,0,98304,245760,507904,1048335,2096911,4194303,8388607]) (H0 := [(b_0,aE2 l3)]) (HH := fun β=>[(b_0,aE2 (l3.set (w64 (p1x0 + n4)).toNat v5))]) 22 mixed J (by kernel_rfl) (by kernel_rfl) [⟨none,some 21,[13,19],fun _=>(b_0,aE2 l3),none,[]⟩,⟨some 21,none,[],fun _=>(b_0,aE2 (l3.set (w64 (p1x0 + n4)).toNat v5)),none,[]⟩] [] J (by kernel_rfl) J (.cons .p0 .nil) (fun _=>J)<|AT.am 13 J J<|AM.qv (q_move J) J<|AM.qv (q_move J) J<|AM.qv (q_move J) J<|AM.qv (q_addw J J) J<|AM.qv (q_move J) J<|AM.qv (q_move J) J<|AM.qv (q_move J) J<|AM.qv (q_addw J J) J<|AM.qv (q_move J) J<|AM.qv (q_move J) J<|AM.qv (q_move J) J<|AM.qv (q_addw J J) J<|AM.qv (t_index_sl J J J e1) J<|AM.nil<|AT.rd (Rs := [(b_0,aE2 l3)]) (fun _=>J) J (fun _=>J) (fun _=>J) (t_load_aptr_agg (g := Signal.av) J J (.inl .p0) J e1 J) J<|AT.am 5 J J<|AM.qv (q_move J) J<|AM.qv (q_move J) J<|AM.qv (q_move J) J<|AM.qv (q_addw J J) J<|AM.qv (t_index_sl J J J e2) J<|AM.nil<|AT.rd (Rs := [(b_0,aE2 l3)]) (fun _=>J) J (fun _=>J) (fun _=>J) (t_load_aptr_agg (g := Signal.av) J J (.inl .p0) J e2 J) J<|AT.am 1 J J<|AM.qv (t_index_sl J J J e3) J<|AM.nil<|AT.run0 (Ti := [(b_0,aE2 l3)]) (Pi := [(b_0,aE2 (l3.set (w64 (p1x0 + n4)).toNat v5))]) (fun _=>J) (fun _=>J) (fun _=>J) J J ?_ ?_
      · exact t_store_aptr1 (g := Signal.av) (el' := v5) J J J J e3 J .p0 J<|ARun.nil ⟨_,J⟩
      refine AT.nilN (fun _=>J) fun β=>ARun.ghost<|ImpX.eqs (s := 0) (av' := .sl 6 b_0 0 (l3.set (w64 (p1x0 + n4)).toNat v5).length) J (by simp)<|ImpX.here<|ARun.ghost<|ImpX.eqs (s := 16) (av' := .sl 6 b_0 0 (l3.set (w64 (p1x0 + n4)).toNat v5).length) J (by simp)<|ImpX.here<|ARun.ghost<|ImpX.eqs (s := 20) (av' := .sl 6 b_0 0 (l3.set (w64 (p1x0 + n4)).toNat v5).length) J (by simp)<|ImpX.here<|ARun.ghost<|ImpX.eqs (s := 24) (av' := .sl 6 b_0 0 (l3.set (w64 (p1x0 + n4)).toNat v5).length) J (by simp)<|ImpX.here<|ARun.ghost<|ImpX.eqs (s := 30) (av' := .sl 6 b_0 0 (l3.set (w64 (p1x0 + n4)).toNat v5).length) J (by simp)<|ImpX.here<|bndE h fun v8 e4 h=>ARun.qv (t_index_sl J J J e4) J<|t_store_aptr1 (g := Signal.av) (el' := v6) J J J J e4 J .p0 J<|ARun.ghost<|ImpX.eqs (s := 0) (av' := .sl 6 b_0 0 ((l3.set (w64 (p1x0 + n4)).toNat v5).set (w64 (p2x0 + n4)).toNat v6).length) J (by rw [List.length_set])<|ImpX.here<|ARun.ghost<|ImpX.eqs (s := 16) (av' := .sl 6 b_0 0 ((l3.set (w64 (p1x0 + n4)).toNat v5).set (w64 (p2x0 + n4)).toNat v6).length) J (by rw [List.length_set])<|ImpX.here<|ARun.ghost<|ImpX.eqs (s := 20) (av' := .sl 6 b_0 0 ((l3.set (w64 (p1x0 + n4)).toNat v5).set (w64 (p2x0 + n4)).toNat v6).length) J (by rw [List.length_set])<|ImpX.here<|ARun.ghost<|ImpX.eqs (s := 24) (av' := .sl 6 b_0 0 ((l3.set (w64 (p1x0 + n4)).toNat v5).set (w64 (p2x0 + n4)).toNat v6).length) J (by rw [List.length_set])<|ImpX.here<|ARun.ghost<|ImpX.eqs (s := 30) (av' := .sl 6 b_0 0 ((l3.set (w64 (p1x0 + n4)).toNat v5).set (w64 (p2x0 + n4)).toNat v6).length) J (by rw [List.length_set])<|ImpX.here<|rN<|ATodo.blk<|tR<|rM J J<|ARun.qv (q_addw J J) J<|rA J J<|rN<|ATodo.stop<|?_
      obtain rfl := Option.some.inj h
      exact hJ1 _ _ J<|ImpX.lq [0] J J J
    · refine have h := iteF hc h; ATodo.exit J<|have h := outL h hA1; ATodo.nil<|?_
      obtain rfl := Option.some.inj h
      exact ImpX.here ⟨_,.nil,_,.cons .p0 .nil,⟨J,J⟩⟩

theorem slices_rotateCmpFunc_Signal_c [GI : GTab] {b_0 : Bk} {p0x0 : List Signal} {p1x0 : Int} {p2x0 : Int} {p3x0 : Int} {fne : Signal → Signal → Option Int} {fne_F : FuncId} [IsFn Tryz.prog fne_F] {fne_C : List AV} (fne_h : ∀ {y0 y1 : _} {u : Int},fne y0 y1 = some u → Pu Tryz.prog fne_F (Signal.av y0 :: Signal.av y1 ::  fne_C) (I u)) {r : (List Signal)} (h : slices_rotateCmpFunc_Signal p0x0 p1x0 p2x0 p3x0 fne = some r) : ACall Tryz.prog 230 [.sl 6 b_0 0 p0x0.length,I p1x0,I p2x0,I p3x0,.func (.func fne_F) fne_C] [(b_0,aE2 p0x0)] (T0 ([(b_0,aE2 r)]) (.tup [])) := by
  unfold slices_rotateCmpFunc_Signal at h
  refine ACall.lessH ?_
  refine ACall.bodyN Tryz.func230 J Tryz.ntmps230 Tryz.results230 J J ?_
  refine tSR<|rM J J<|rM J J<|ARun.qv (q_subw J J) J<|rA J J<|rN<|tSR<|rM J J<|rM J J<|ARun.qv (q_subw J J) J<|rA J J<|rN<|tS<|ATodo.block<|ATodo.loopI (fun x : (List Signal) × Int × Int=>slices_rotateCmpFunc_Signal_b1 p2x0 fne x.1 x.2.1 x.2.2) (fun x σ'=>σ' = ⟨58,[(0,.sl 6 b_0 0 x.1.length),(2,I p2x0),(4,.func (.func fne_F) fne_C),(10,I x.2.1),(11,I x.2.2)],[(b_0,aE2 x.1)]⟩) h ?_ ?_
  · exact ImpX.lq [0] J J J
  · intro x z1 σ' J1 hmk h hJ1 hA1
    obtain ⟨l4, n5, n6⟩ := x
    obtain rfl := hmk
    replace h : slices_rotateCmpFunc_Signal_b1 p2x0 fne l4 n5 n6 = some z1 := h
    unfold slices_rotateCmpFunc_Signal_b1 at h
    refine tS<|tSR<|rM J J<|rM J J<|ARun.qv (q_neq J J) J<|rN<|ATodo.cond_d J (fun hc=>?_) (fun hc=>?_)
    · refine have h := iteT hc h; tK<|ATodo.block<|tSR<|rM J J<|rM J J<|ARun.qv (q_gtr J J) J<|rN<|ATodo.cut (fun σ'=>∃ (l7 : List Signal) (n8 : Int) (n9 : Int),slices_rotateCmpFunc_Signal_j1 l7 n8 n9 = some z1 ∧ σ' = ⟨58,[(0,.sl 6 b_0 0 l7.length),(2,I p2x0),(4,.func (.func fne_F) fne_C),(10,I n8),(11,I n9)],[(b_0,aE2 l7)]⟩) ?_ ?_
      · refine ATodo.cond_d J (fun hc=>?_) (fun hc=>?_)
        · exact have h := iteT hc h; tSR<|rM J J<|rM J J<|rM J J<|ARun.qv (q_subw J J) J<|rM J J<|rM J J<|rM J J<|bndE h fun v10 e1 h=>t_call0 J (slices_swapRangeCmpFunc_Signal_c fne_h (lenOk_f e1)) (CoL.refl _) (.cons .p0 .nil) J J<|ARun.ghost<|ImpX.eqs (s := 0) (av' := .sl 6 b_0 0 v10.length) J (congrArg (AV.sl 6 b_0 0) (lenOk_l e1))<|ImpX.here<|ARun.ghost<|ImpX.eqs (s := 24) (av' := .sl 6 b_0 0 v10.length) J (congrArg (AV.sl 6 b_0 0) (lenOk_l e1))<|ImpX.here<|rN<|tR<|rM J J<|rM J J<|ARun.qv (q_subw J J) J<|rA J J<|rN<|ATodo.stop<|ImpX.lq [0] ⟨v10,w64 (n5 - n6),n6,h,J⟩ J J
        · exact have h := iteF hc h; tSR<|rM J J<|rM J J<|rM J J<|ARun.qv (q_subw J J) J<|rM J J<|rM J J<|ARun.qv (q_addw J J) J<|rM J J<|ARun.qv (q_subw J J) J<|rM J J<|rM J J<|bndE h fun v11 e2 h=>t_call0 J (slices_swapRangeCmpFunc_Signal_c fne_h (lenOk_f e2)) (CoL.refl _) (.cons .p0 .nil) J J<|ARun.ghost<|ImpX.eqs (s := 0) (av' := .sl 6 b_0 0 v11.length) J (congrArg (AV.sl 6 b_0 0) (lenOk_l e2))<|ImpX.here<|ARun.ghost<|ImpX.eqs (s := 35) (av' := .sl 6 b_0 0 v11.length) J (congrArg (AV.sl 6 b_0 0) (lenOk_l e2))<|ImpX.here<|rN<|tR<|rM J J<|rM J J<|ARun.qv (q_subw J J) J<|rA J J<|rN<|ATodo.stop<|ImpX.lq [0] ⟨v11,n5,w64 (n6 - n5),h,J⟩ J J
      · rintro σ' ⟨l7, n8, n9, h, rfl⟩
        unfold slices_rotateCmpFunc_Signal_j1 at h
        refine ATodo.blk<|ATodo.stop<|?_
        obtain rfl := Option.some.inj h
        exact hJ1 _ _ J<|ImpX.lq [0] J J J
    · refine have h := iteF hc h; ATodo.exit J<|have h := outL h hA1; ?_
      unfold slices_rotateCmpFunc_Signal_k2 at h
      refine tR<|rM J J<|rM J J<|rM J J<|ARun.qv (q_subw J J) J<|rM J J<|rM J J<|rM J J<|bndE h fun v12 e3 h=>t_call0 J (slices_swapRangeCmpFunc_Signal_c fne_h (lenOk_f e3)) (CoL.refl _) (.cons .p0 .nil) J J<|ARun.ghost<|ImpX.eqs (s := 0) (av' := .sl 6 b_0 0 v12.length) J (congrArg (AV.sl 6 b_0 0) (lenOk_l e3))<|ImpX.here<|ARun.ghost<|ImpX.eqs (s := 50) (av' := .sl 6 b_0 0 v12.length) J (congrArg (AV.sl 6 b_0 0) (lenOk_l e3))<|ImpX.here<|rN<|ATodo.nil<|?_
      obtain rfl := Option.some.inj h
      exact ImpX.here ⟨_,.nil,_,.cons .p0 .nil,⟨J,J⟩⟩

theorem slices_symMergeCmpFunc_Signal_bd_c [GI : GTab] {b_0 : Bk} {self : (List Signal) → Int → Int → Int → (Signal → Signal → Option Int) → Option (List Signal)} (self_h : ∀ {b_0 : Bk} {p0x0 : List Signal} {p1x0 : Int} {p2x0 : Int} {p3x0 : Int} {fne : Signal → Signal → Option Int} {fne_F : FuncId} [IsFn Tryz.prog fne_F] {fne_C : List AV} (fne_h : ∀ {y0 y1 : _} {u : Int},fne y0 y1 = some u → Pu Tryz.prog fne_F (Signal.av y0 :: Signal.av y1 ::  fne_C) (I u)) {r : (List Signal)},self p0x0 p1x0 p2x0 p3x0 fne = some r → ACall Tryz.prog 185 [.sl 6 b_0 0 p0x0.length,I p1x0,I p2x0,I p3x0,.func (.func fne_F) fne_C] [(b_0,aE2 p0x0)] (T0 ([(b_0,aE2 r)]) (.tup []))) {p0x0 : List Signal} {p1x0 : Int} {p2x0 : Int} {p3x0 : Int} {fne : Signal → Signal → Option Int} {fne_F : FuncId} [IsFn Tryz.prog fne_F] {fne_C : List AV} (fne_h : ∀ {y0 y1 : _} {u : Int},fne y0 y1 = some u → Pu Tryz.prog fne_F (Signal.av y0 :: Signal.av y1 ::  fne_C) (I u)) {r : (List Signal)} (h : slices_symMergeCmpFunc_Signal_bd self p0x0 p1x0 p2x0 p3x0 fne = some r) : ACall Tryz.prog 185 [.sl 6 b_0 0 p0x0.length,I p1x0,I p2x0,I p3x0,.func (.func fne_F) fne_C] [(b_0,aE2 p0x0)] (T0 ([(b_0,aE2 r)]) (.tup [])) := by
  unfold slices_symMergeCmpFunc_Signal_bd at h
  refine ACall.lessH ?_
  refine ACall.bodyN Tryz.func185 J Tryz.ntmps185 Tryz.results185 J J ?_
  refine tS<|tSR<|rM J J<|rM J J<|ARun.qv (q_subw J J) J<|ARun.qv (q_eql J J) J<|rN<|ATodo.cond_d J (fun hc=>?_) (fun hc=>?_)
  · refine have h := iteT hc h; tSR<|rM J J<|rA J J<|rN<|tSR<|rM J J<|rA J J<|rN<|tS<|ATodo.block<|ATodo.loopI (fun x : Int × Int=>slices_symMergeCmpFunc_Signal_b1 p0x0 p1x0 fne x.1 x.2) (fun x σ'=>σ' = ⟨220,[(0,.sl 6 b_0 0 p0x0.length),(1,I p1x0),(4,.func (.func fne_F) fne_C),(10,I x.1),(11,I x.2)],[(b_0,aE2 p0x0)]⟩) h ?_ ?_
    · exact ImpX.lq [0] J J J
    · intro x z1 σ' J1 hmk h hJ1 hA1
      obtain ⟨n3, n4⟩ := x
      obtain rfl := hmk
      replace h : slices_symMergeCmpFunc_Signal_b1 p0x0 p1x0 fne n3 n4 = some z1 := h
      unfold slices_symMergeCmpFunc_Signal_b1 at h
      refine tS<|tSR<|rM J J<|rM J J<|ARun.qv (q_lss J J) J<|rN<|ATodo.cond_d J (fun hc=>?_) (fun hc=>?_)
      · refine have h := iteT hc h; tK<|ATodo.block<|tSR<|rM J J<|rM J J<|ARun.qv (q_addw J J) J<|ARun.qv (q_conv_int J) J<|ARun.qv (t_shr J J (by decide)) J<|ARun.qv (q_conv_int J) J<|rA J J<|rN<|tS<|ATodo.regionM (id := 5) (A := [0,0,0,6,14,0,0,96,224,511,1023]) 11 mixed J (by kernel_rfl) (by kernel_rfl)<|AM.qv (q_move J) J<|AM.qv (q_move J) J<|AM.qv (q_move J) J<|bndE h fun v5 e1 h=>AM.qv (t_index_sl J J J e1) J<|AM.qv (t_load_aptr_agg (g := Signal.av) J J (.inl .p0) J e1 J) J<|AM.qv (q_move J) J<|AM.qv (q_move J) J<|bndE h fun v6 e2 h=>AM.qv (t_index_sl J J J e2) J<|AM.qv (t_load_aptr_agg (g := Signal.av) J J (.inl .p0) J e2 J) J<|bndE h fun v7 e3 h=>AM.callvp J J (fne_h e3) (CoL.refl _) J<|AM.qv (q_lss J J) J<|AM.nil<|rN<|ATodo.cut (fun σ'=>∃ (n8 : Int) (n9 : Int),slices_symMergeCmpFunc_Signal_j1 n8 n9 = some z1 ∧ σ' = ⟨220,[(0,.sl 6 b_0 0 p0x0.length),(1,I p1x0),(4,.func (.func fne_F) fne_C),(10,I n8),(11,I n9)],[(b_0,aE2 p0x0)]⟩) ?_ ?_
        · refine ATodo.cond_d J (fun hc=>?_) (fun hc=>?_)
          · exact have h := iteT hc h; tR<|rM J J<|ARun.qv (q_addw J J) J<|rA J J<|rN<|ATodo.stop<|ImpX.lq [0] ⟨w64 ((w64 (shrI .u64 (IntKind.u64.wrap (w64 (n3 + n4))) (1 : Int))) + (1 : Int)),n4,h,J⟩ J J
          · exact have h := iteF hc h; tR<|rM J J<|rA J J<|rN<|ATodo.stop<|ImpX.lq [0] ⟨n3,w64 (shrI .u64 (IntKind.u64.wrap (w64 (n3 + n4))) (1 : Int)),h,J⟩ J J
        · rintro σ' ⟨n8, n9, h, rfl⟩
          unfold slices_symMergeCmpFunc_Signal_j1 at h
          refine ATodo.blk<|ATodo.stop<|?_
          obtain rfl := Option.some.inj h
          exact hJ1 _ _ J<|ImpX.lq [0] J J J
      · refine have h := iteF hc h; ATodo.exit J<|have h := outL h hA1; tS<|tSR<|rM J J<|rA J J<|rN<|ATodo.block<|ATodo.loopI (fun x : (List Signal) × Int=>slices_symMergeCmpFunc_Signal_b2 n3 x.1 x.2) (fun x σ'=>σ' = ⟨220,[(0,.sl 6 b_0 0 x.1.length),(10,I n3),(13,I x.2)],[(b_0,aE2 x.1)]⟩) h ?_ ?_
        · exact ImpX.lq [0] J J J
        · intro x z2 σ' J2 hmk h hJ2 hA2
          obtain ⟨l12, n13⟩ := x
          obtain rfl := hmk
          replace h : slices_symMergeCmpFunc_Signal_b2 n3 l12 n13 = some z2 := h
          unfold slices_symMergeCmpFunc_Signal_b2 at h
          refine tS<|tSR<|rM J J<|rM J J<|ARun.qv (q_subw J J) J<|ARun.qv (q_lss J J) J<|rN<|ATodo.cond_d J (fun hc=>?_) (fun hc=>?_)
          · refine have h := iteT hc h; tK<|tS<|ATodo.block<|bndE h fun v14 e4 h=>bndE h fun v15 e5 h=>bndE h fun v16 e6 h=>ATodo.regionT (id := 11) (A := [0,0,0,0,8,0,0,64,224,480,0,0,3072,7168,16355,32739,65535,131071]) (H0 := [(b_0,aE2 l12)]) (HH := fun β=>[(b_0,aE2 (l12.set n13.toNat v14))]) 16 mixed J (by kernel_rfl) (by kernel_rfl) [⟨none,some 15,[9,13],fun _=>(b_0,aE2 l12),none,[]⟩,⟨some 15,none,[],fun _=>(b_0,aE2 (l12.set n13.toNat v14)),none,[]⟩] [] J (by kernel_rfl) J (.cons .p0 .nil) (fun _=>J)<|AT.am 9 J J<|AM.qv (q_move J) J<|AM.qv (q_move J) J<|AM.qv (q_move J) J<|AM.qv (q_move J) J<|AM.qv (q_addw J J) J<|AM.qv (q_move J) J<|AM.qv (q_move J) J<|AM.qv (q_addw J J) J<|AM.qv (t_index_sl J J J e4) J<|AM.nil<|AT.rd (Rs := [(b_0,aE2 l12)]) (fun _=>J) J (fun _=>J) (fun _=>J) (t_load_aptr_agg (g := Signal.av) J J (.inl .p0) J e4 J) J<|AT.am 3 J J<|AM.qv (q_move J) J<|AM.qv (q_move J) J<|AM.qv (t_index_sl J J J e5) J<|AM.nil<|AT.rd (Rs := [(b_0,aE2 l12)]) (fun _=>J) J (fun _=>J) (fun _=>J) (t_load_aptr_agg (g := Signal.av) J J (.inl .p0) J e5 J) J<|AT.am 1 J J<|AM.qv (t_index_sl J J J e6) J<|AM.nil<|AT.run0 (Ti := [(b_0,aE2 l12)]) (Pi := [(b_0,aE2 (l12.set n13.toNat v14))]) (fun _=>J) (fun _=>J) (fun _=>J) J J ?_ ?_
            · exact t_store_aptr1 (g := Signal.av) (el' := v14) J J J J e6 J .p0 J<|ARun.nil ⟨_,J⟩
            refine AT.nilN (fun _=>J) fun β=>ARun.ghost<|ImpX.eqs (s := 0) (av' := .sl 6 b_0 0 (l12.set n13.toNat v14).length) J (by simp)<|ImpX.here<|ARun.ghost<|ImpX.eqs (s := 61) (av' := .sl 6 b_0 0 (l12.set n13.toNat v14).length) J (by simp)<|ImpX.here<|ARun.ghost<|ImpX.eqs (s := 63) (av' := .sl 6 b_0 0 (l12.set n13.toNat v14).length) J (by simp)<|ImpX.here<|ARun.ghost<|ImpX.eqs (s := 66) (av' := .sl 6 b_0 0 (l12.set n13.toNat v14).length) J (by simp)<|ImpX.here<|ARun.ghost<|ImpX.eqs (s := 71) (av' := .sl 6 b_0 0 (l12.set n13.toNat v14).length) J (by simp)<|ImpX.here<|bndE h fun v17 e7 h=>ARun.qv (t_index_sl J J J e7) J<|t_store_aptr1 (g := Signal.av) (el' := v15) J J J J e7 J .p0 J<|ARun.ghost<|ImpX.eqs (s := 0) (av' := .sl 6 b_0 0 ((l12.set n13.toNat v14).set (w64 (n13 + (1 : Int))).toNat v15).length) J (by rw [List.length_set])<|ImpX.here<|ARun.ghost<|ImpX.eqs (s := 61) (av' := .sl 6 b_0 0 ((l12.set n13.toNat v14).set (w64 (n13 + (1 : Int))).toNat v15).length) J (by rw [List.length_set])<|ImpX.here<|ARun.ghost<|ImpX.eqs (s := 63) (av' := .sl 6 b_0 0 ((l12.set n13.toNat v14).set (w64 (n13 + (1 : Int))).toNat v15).length) J (by rw [List.length_set])<|ImpX.here<|ARun.ghost<|ImpX.eqs (s := 66) (av' := .sl 6 b_0 0 ((l12.set n13.toNat v14).set (w64 (n13 + (1 : Int))).toNat v15).length) J (by rw [List.length_set])<|ImpX.here<|ARun.ghost<|ImpX.eqs (s := 71) (av' := .sl 6 b_0 0 ((l12.set n13.toNat v14).set (w64 (n13 + (1 : Int))).toNat v15).length) J (by rw [List.length_set])<|ImpX.here<|rN<|ATodo.blk<|tR<|rM J J<|ARun.qv (q_addw J J) J<|rA J J<|rN<|ATodo.stop<|?_
            obtain rfl := Option.some.inj h
            exact hJ2 _ _ J<|ImpX.lq [0] J J J
          · refine have h := iteF hc h; ATodo.exit J<|have h := outL h hA2; ATodo.ret<|?_
            obtain rfl := Option.some.inj h
            exact ImpX.here ⟨_,.nil,_,.cons .p0 .nil,⟨J,J⟩⟩
  · refine have h := iteF hc h; tK<|tS<|tSR<|rM J J<|rM J J<|ARun.qv (q_subw J J) J<|ARun.qv (q_eql J J) J<|rN<|ATodo.cond_d J (fun hc=>?_) (fun hc=>?_)
    · refine have h := iteT hc h; tSR<|rM J J<|rA J J<|rN<|tSR<|rM J J<|rA J J<|rN<|tS<|ATodo.block<|ATodo.loopI (fun x : Int × Int=>slices_symMergeCmpFunc_Signal_b3 p0x0 p2x0 fne x.1 x.2) (fun x σ'=>σ' = ⟨220,[(0,.sl 6 b_0 0 p0x0.length),(2,I p2x0),(4,.func (.func fne_F) fne_C),(14,I x.1),(15,I x.2)],[(b_0,aE2 p0x0)]⟩) h ?_ ?_
      · exact ImpX.lq [0] J J J
      · intro x z3 σ' J3 hmk h hJ3 hA3
        obtain ⟨n20, n21⟩ := x
        obtain rfl := hmk
        replace h : slices_symMergeCmpFunc_Signal_b3 p0x0 p2x0 fne n20 n21 = some z3 := h
        unfold slices_symMergeCmpFunc_Signal_b3 at h
        refine tS<|tSR<|rM J J<|rM J J<|ARun.qv (q_lss J J) J<|rN<|ATodo.cond_d J (fun hc=>?_) (fun hc=>?_)
        · refine have h := iteT hc h; tK<|ATodo.block<|tSR<|rM J J<|rM J J<|ARun.qv (q_addw J J) J<|ARun.qv (q_conv_int J) J<|ARun.qv (t_shr J J (by decide)) J<|ARun.qv (q_conv_int J) J<|rA J J<|rN<|tS<|ATodo.regionM (id := 17) (A := [0,0,0,6,14,0,0,96,224,511,1023,2047]) 12 mixed J (by kernel_rfl) (by kernel_rfl)<|AM.qv (q_move J) J<|AM.qv (q_move J) J<|AM.qv (q_move J) J<|bndE h fun v22 e8 h=>AM.qv (t_index_sl J J J e8) J<|AM.qv (t_load_aptr_agg (g := Signal.av) J J (.inl .p0) J e8 J) J<|AM.qv (q_move J) J<|AM.qv (q_move J) J<|bndE h fun v23 e9 h=>AM.qv (t_index_sl J J J e9) J<|AM.qv (t_load_aptr_agg (g := Signal.av) J J (.inl .p0) J e9 J) J<|bndE h fun v24 e10 h=>AM.callvp J J (fne_h e10) (CoL.refl _) J<|AM.qv (q_lss J J) J<|AM.qv (q_not_d J) J<|AM.nil<|rN<|ATodo.cut (fun σ'=>∃ (n25 : Int) (n26 : Int),slices_symMergeCmpFunc_Signal_j2 n25 n26 = some z3 ∧ σ' = ⟨220,[(0,.sl 6 b_0 0 p0x0.length),(2,I p2x0),(4,.func (.func fne_F) fne_C),(14,I n25),(15,I n26)],[(b_0,aE2 p0x0)]⟩) ?_ ?_
          · refine ATodo.cond_d J (fun hc=>?_) (fun hc=>?_)
            · exact have h := iteT hc h; tR<|rM J J<|ARun.qv (q_addw J J) J<|rA J J<|rN<|ATodo.stop<|ImpX.lq [0] ⟨w64 ((w64 (shrI .u64 (IntKind.u64.wrap (w64 (n20 + n21))) (1 : Int))) + (1 : Int)),n21,h,J⟩ J J
            · exact have h := iteF hc h; tR<|rM J J<|rA J J<|rN<|ATodo.stop<|ImpX.lq [0] ⟨n20,w64 (shrI .u64 (IntKind.u64.wrap (w64 (n20 + n21))) (1 : Int)),h,J⟩ J J
          · rintro σ' ⟨n25, n26, h, rfl⟩
            unfold slices_symMergeCmpFunc_Signal_j2 at h
            refine ATodo.blk<|ATodo.stop<|?_
            obtain rfl := Option.some.inj h
            exact hJ3 _ _ J<|ImpX.lq [0] J J J
        · refine have h := iteF hc h; ATodo.exit J<|have h := outL h hA3; tS<|tSR<|rM J J<|rA J J<|rN<|ATodo.block<|ATodo.loopI (fun x : (List Signal) × Int=>slices_symMergeCmpFunc_Signal_b4 n20 x.1 x.2) (fun x σ'=>σ' = ⟨220,[(0,.sl 6 b_0 0 x.1.length),(14,I n20),(17,I x.2)],[(b_0,aE2 x.1)]⟩) h ?_ ?_
          · exact ImpX.lq [0] J J J
          · intro x z4 σ' J4 hmk h hJ4 hA4
            obtain ⟨l29, n30⟩ := x
            obtain rfl := hmk
            replace h : slices_symMergeCmpFunc_Signal_b4 n20 l29 n30 = some z4 := h
            unfold slices_symMergeCmpFunc_Signal_b4 at h
            refine tS<|tSR<|rM J J<|rM J J<|ARun.qv (q_gtr J J) J<|rN<|ATodo.cond_d J (fun hc=>?_) (fun hc=>?_)
            · refine have h := iteT hc h; tK<|tS<|ATodo.block<|bndE h fun v31 e11 h=>bndE h fun v32 e12 h=>bndE h fun v33 e13 h=>ATodo.regionT (id := 23) (A := [0,0,0,0,8,0,0,64,224,480,0,0,3072,7168,16355,32739,65535,131071]) (H0 := [(b_0,aE2 l29)]) (HH := fun β=>[(b_0,aE2 (l29.set n30.toNat v31))]) 16 mixed J (by kernel_rfl) (by kernel_rfl) [⟨none,some 15,[9,13],fun _=>(b_0,aE2 l29),none,[]⟩,⟨some 15,none,[],fun _=>(b_0,aE2 (l29.set n30.toNat v31)),none,[]⟩] [] J (by kernel_rfl) J (.cons .p0 .nil) (fun _=>J)<|AT.am 9 J J<|AM.qv (q_move J) J<|AM.qv (q_move J) J<|AM.qv (q_move J) J<|AM.qv (q_move J) J<|AM.qv (q_subw J J) J<|AM.qv (q_move J) J<|AM.qv (q_move J) J<|AM.qv (q_subw J J) J<|AM.qv (t_index_sl J J J e11) J<|AM.nil<|AT.rd (Rs := [(b_0,aE2 l29)]) (fun _=>J) J (fun _=>J) (fun _=>J) (t_load_aptr_agg (g := Signal.av) J J (.inl .p0) J e11 J) J<|AT.am 3 J J<|AM.qv (q_move J) J<|AM.qv (q_move J) J<|AM.qv (t_index_sl J J J e12) J<|AM.nil<|AT.rd (Rs := [(b_0,aE2 l29)]) (fun _=>J) J (fun _=>J) (fun _=>J) (t_load_aptr_agg (g := Signal.av) J J (.inl .p0) J e12 J) J<|AT.am 1 J J<|AM.qv (t_index_sl J J J e13) J<|AM.nil<|AT.run0 (Ti := [(b_0,aE2 l29)]) (Pi := [(b_0,aE2 (l29.set n30.toNat v31))]) (fun _=>J) (fun _=>J) (fun _=>J) J J ?_ ?_
              · exact t_store_aptr1 (g := Signal.av) (el' := v31) J J J J e13 J .p0 J<|ARun.nil ⟨_,J⟩
              refine AT.nilN (fun _=>J) fun β=>ARun.ghost<|ImpX.eqs (s := 0) (av' := .sl 6 b_0 0 (l29.set n30.toNat v31).length) J (by simp)<|ImpX.here<|ARun.ghost<|ImpX.eqs (s := 113) (av' := .sl 6 b_0 0 (l29.set n30.toNat v31).length) J (by simp)<|ImpX.here<|ARun.ghost<|ImpX.eqs (s := 115) (av' := .sl 6 b_0 0 (l29.set n30.toNat v31).length) J (by simp)<|ImpX.here<|ARun.ghost<|ImpX.eqs (s := 118) (av' := .sl 6 b_0 0 (l29.set n30.toNat v31).length) J (by simp)<|ImpX.here<|ARun.ghost<|ImpX.eqs (s := 123) (av' := .sl 6 b_0 0 (l29.set n30.toNat v31).length) J (by simp)<|ImpX.here<|bndE h fun v34 e14 h=>ARun.qv (t_index_sl J J J e14) J<|t_store_aptr1 (g := Signal.av) (el' := v32) J J J J e14 J .p0 J<|ARun.ghost<|ImpX.eqs (s := 0) (av' := .sl 6 b_0 0 ((l29.set n30.toNat v31).set (w64 (n30 - (1 : Int))).toNat v32).length) J (by rw [List.length_set])<|ImpX.here<|ARun.ghost<|ImpX.eqs (s := 113) (av' := .sl 6 b_0 0 ((l29.set n30.toNat v31).set (w64 (n30 - (1 : Int))).toNat v32).length) J (by rw [List.length_set])<|ImpX.here<|ARun.ghost<|ImpX.eqs (s := 115) (av' := .sl 6 b_0 0 ((l29.set n30.toNat v31).set (w64 (n30 - (1 : Int))).toNat v32).length) J (by rw [List.length_set])<|ImpX.here<|ARun.ghost<|ImpX.eqs (s := 118) (av' := .sl 6 b_0 0 ((l29.set n30.toNat v31).set (w64 (n30 - (1 : Int))).toNat v32).length) J (by rw [List.length_set])<|ImpX.here<|ARun.ghost<|ImpX.eqs (s := 123) (av' := .sl 6 b_0 0 ((l29.set n30.toNat v31).set (w64 (n30 - (1 : Int))).toNat v32).length) J (by rw [List.length_set])<|ImpX.here<|rN<|ATodo.blk<|tR<|rM J J<|ARun.qv (q_subw J J) J<|rA J J<|rN<|ATodo.stop<|?_
              obtain rfl := Option.some.inj h
              exact hJ4 _ _ J<|ImpX.lq [0] J J J
            · refine have h := iteF hc h; ATodo.exit J<|have h := outL h hA4; ATodo.ret<|?_
              obtain rfl := Option.some.inj h
              exact ImpX.here ⟨_,.nil,_,.cons .p0 .nil,⟨J,J⟩⟩
    · refine have h := iteF hc h; tK<|tSR<|rM J J<|rM J J<|ARun.qv (q_addw J J) J<|ARun.qv (q_conv_int J) J<|ARun.qv (t_shr J J (by decide)) J<|ARun.qv (q_conv_int J) J<|rA J J<|rN<|tSR<|rM J J<|rM J J<|ARun.qv (q_addw J J) J<|rA J J<|rN<|tSR<|rA J J<|rA J J<|rN<|tS<|tSR<|rM J J<|rM J J<|ARun.qv (q_gtr J J) J<|rN<|ATodo.cut (fun σ'=>∃ (n35 : Int) (n36 : Int),slices_symMergeCmpFunc_Signal_j3 self p0x0 p1x0 p2x0 p3x0 fne n35 n36 = some r ∧ σ' = ⟨220,[(0,.sl 6 b_0 0 p0x0.length),(1,I p1x0),(2,I p2x0),(3,I p3x0),(4,.func (.func fne_F) fne_C),(18,I (w64 (shrI .u64 (IntKind.u64.wrap (w64 (p1x0 + p3x0))) (1 : Int)))),(19,I (w64 ((w64 (shrI .u64 (IntKind.u64.wrap (w64 (p1x0 + p3x0))) (1 : Int))) + p2x0))),(20,I n35),(21,I n36)],[(b_0,aE2 p0x0)]⟩) ?_ ?_
      · refine ATodo.cond_d J (fun hc=>?_) (fun hc=>?_)
        · exact have h := iteT hc h; tSR<|rM J J<|rM J J<|ARun.qv (q_subw J J) J<|rA J J<|rN<|tR<|rM J J<|rA J J<|rN<|ATodo.stop<|ImpX.lq [0] ⟨w64 ((w64 ((w64 (shrI .u64 (IntKind.u64.wrap (w64 (p1x0 + p3x0))) (1 : Int))) + p2x0)) - p3x0),w64 (shrI .u64 (IntKind.u64.wrap (w64 (p1x0 + p3x0))) (1 : Int)),h,J⟩ J J
        · exact have h := iteF hc h; tSR<|rM J J<|rA J J<|rN<|tR<|rM J J<|rA J J<|rN<|ATodo.stop<|ImpX.lq [0] ⟨p1x0,p2x0,h,J⟩ J J
      · rintro σ' ⟨n35, n36, h, rfl⟩
        unfold slices_symMergeCmpFunc_Signal_j3 at h
        refine tSR<|rM J J<|ARun.qv (q_subw J J) J<|rA J J<|rN<|tS<|ATodo.block<|ATodo.loopI (fun x : Int × Int=>slices_symMergeCmpFunc_Signal_b5 self p0x0 p1x0 p2x0 p3x0 fne x.1 x.2) (fun x σ'=>σ' = ⟨220,[(0,.sl 6 b_0 0 p0x0.length),(1,I p1x0),(2,I p2x0),(3,I p3x0),(4,.func (.func fne_F) fne_C),(18,I (w64 (shrI .u64 (IntKind.u64.wrap (w64 (p1x0 + p3x0))) (1 : Int)))),(19,I (w64 ((w64 (shrI .u64 (IntKind.u64.wrap (w64 (p1x0 + p3x0))) (1 : Int))) + p2x0))),(20,I x.1),(21,I x.2),(22,I (w64 ((w64 ((w64 (shrI .u64 (IntKind.u64.wrap (w64 (p1x0 + p3x0))) (1 : Int))) + p2x0)) - (1 : Int))))],[(b_0,aE2 p0x0)]⟩) h ?_ ?_
        · exact ImpX.lq [0] J J J
        · intro x z5 σ' J5 hmk h hJ5 hA5
          obtain ⟨n39, n40⟩ := x
          obtain rfl := hmk
          replace h : slices_symMergeCmpFunc_Signal_b5 self p0x0 p1x0 p2x0 p3x0 fne n39 n40 = some z5 := h
          unfold slices_symMergeCmpFunc_Signal_b5 at h
          refine tS<|tSR<|rM J J<|rM J J<|ARun.qv (q_lss J J) J<|rN<|ATodo.cond_d J (fun hc=>?_) (fun hc=>?_)
          · refine have h := iteT hc h; tK<|ATodo.block<|tSR<|rM J J<|rM J J<|ARun.qv (q_addw J J) J<|ARun.qv (q_conv_int J) J<|ARun.qv (t_shr J J (by decide)) J<|ARun.qv (q_conv_int J) J<|rA J J<|rN<|tS<|ATodo.regionM (id := 35) (A := [0,0,0,0,12,30,62,0,0,384,896,2047,4095,8191]) 14 mixed J (by kernel_rfl) (by kernel_rfl)<|AM.qv (q_move J) J<|AM.qv (q_move J) J<|AM.qv (q_move J) J<|AM.qv (q_move J) J<|AM.qv (q_subw J J) J<|bndE h fun v41 e15 h=>AM.qv (t_index_sl J J J e15) J<|AM.qv (t_load_aptr_agg (g := Signal.av) J J (.inl .p0) J e15 J) J<|AM.qv (q_move J) J<|AM.qv (q_move J) J<|bndE h fun v42 e16 h=>AM.qv (t_index_sl J J J e16) J<|AM.qv (t_load_aptr_agg (g := Signal.av) J J (.inl .p0) J e16 J) J<|bndE h fun v43 e17 h=>AM.callvp J J (fne_h e17) (CoL.refl _) J<|AM.qv (q_lss J J) J<|AM.qv (q_not_d J) J<|AM.nil<|rN<|ATodo.cut (fun σ'=>∃ (n44 : Int) (n45 : Int),slices_symMergeCmpFunc_Signal_j4 n44 n45 = some z5 ∧ σ' = ⟨220,[(0,.sl 6 b_0 0 p0x0.length),(1,I p1x0),(2,I p2x0),(3,I p3x0),(4,.func (.func fne_F) fne_C),(18,I (w64 (shrI .u64 (IntKind.u64.wrap (w64 (p1x0 + p3x0))) (1 : Int)))),(19,I (w64 ((w64 (shrI .u64 (IntKind.u64.wrap (w64 (p1x0 + p3x0))) (1 : Int))) + p2x0))),(20,I n44),(21,I n45),(22,I (w64 ((w64 ((w64 (shrI .u64 (IntKind.u64.wrap (w64 (p1x0 + p3x0))) (1 : Int))) + p2x0)) - (1 : Int))))],[(b_0,aE2 p0x0)]⟩) ?_ ?_
            · refine ATodo.cond_d J (fun hc=>?_) (fun hc=>?_)
              · exact have h := iteT hc h; tR<|rM J J<|ARun.qv (q_addw J J) J<|rA J J<|rN<|ATodo.stop<|ImpX.lq [0] ⟨w64 ((w64 (shrI .u64 (IntKind.u64.wrap (w64 (n39 + n40))) (1 : Int))) + (1 : Int)),n40,h,J⟩ J J
              · exact have h := iteF hc h; tR<|rM J J<|rA J J<|rN<|ATodo.stop<|ImpX.lq [0] ⟨n39,w64 (shrI .u64 (IntKind.u64.wrap (w64 (n39 + n40))) (1 : Int)),h,J⟩ J J
            · rintro σ' ⟨n44, n45, h, rfl⟩
              unfold slices_symMergeCmpFunc_Signal_j4 at h
              refine ATodo.blk<|ATodo.stop<|?_
              obtain rfl := Option.some.inj h
              exact hJ5 _ _ J<|ImpX.lq [0] J J J
          · refine have h := iteF hc h; ATodo.exit J<|have h := outL h hA5; tSR<|rM J J<|rM J J<|ARun.qv (q_subw J J) J<|rA J J<|rN<|tS<|tS<|ATodo.cut (fun σ'=>∃ (c46 : Bool),slices_symMergeCmpFunc_Signal_j5 self p0x0 p1x0 p2x0 p3x0 fne n39 c46 = some r ∧ σ' = ⟨220,[(0,.sl 6 b_0 0 p0x0.length),(1,I p1x0),(2,I p2x0),(3,I p3x0),(4,.func (.func fne_F) fne_C),(18,I (w64 (shrI .u64 (IntKind.u64.wrap (w64 (p1x0 + p3x0))) (1 : Int)))),(20,I n39),(24,I (w64 ((w64 ((w64 (shrI .u64 (IntKind.u64.wrap (w64 (p1x0 + p3x0))) (1 : Int))) + p2x0)) - n39))),(185,.bool c46)],[(b_0,aE2 p0x0)]⟩) ?_ ?_
            · refine tR<|rM J J<|rM J J<|ARun.qv (q_lss J J) J<|rM J J<|ARun.guard_dt J J J (fun hc=>?_) (fun hc=>?_)
              · rw [andTd hc] at h
                exact rM J J<|rY J J J<|rM J J<|rY J J J<|ARun.qv (q_lss J J) J<|rT J J J<|rN<|ATodo.stop<|ImpX.lq [0] ⟨decide (p2x0 < (w64 ((w64 ((w64 (shrI .u64 (IntKind.u64.wrap (w64 (p1x0 + p3x0))) (1 : Int))) + p2x0)) - n39))),h,J⟩ J J
              · rw [andFd hc] at h
                exact rG J J J J<|rG J J J J<|rE J J J<|rN<|ATodo.stop<|ImpX.lq [0] ⟨false,h,J⟩ J J
            · rintro σ' ⟨c46, h, rfl⟩
              unfold slices_symMergeCmpFunc_Signal_j5 at h
              refine ATodo.cut (fun σ'=>∃ (l47 : List Signal),slices_symMergeCmpFunc_Signal_j6 self p1x0 p2x0 p3x0 fne n39 l47 = some r ∧ σ' = ⟨220,[(0,.sl 6 b_0 0 l47.length),(1,I p1x0),(3,I p3x0),(4,.func (.func fne_F) fne_C),(18,I (w64 (shrI .u64 (IntKind.u64.wrap (w64 (p1x0 + p3x0))) (1 : Int)))),(20,I n39),(24,I (w64 ((w64 ((w64 (shrI .u64 (IntKind.u64.wrap (w64 (p1x0 + p3x0))) (1 : Int))) + p2x0)) - n39)))],[(b_0,aE2 l47)]⟩) ?_ ?_
              · refine ATodo.cond J (fun hc=>?_) (fun hc=>?_)
                · exact have h := iteT hc h; tR<|rM J J<|rM J J<|rM J J<|rM J J<|rM J J<|bndE h fun v48 e18 h=>t_call0 J (slices_rotateCmpFunc_Signal_c fne_h (lenOk_f e18)) (CoL.refl _) (.cons .p0 .nil) J J<|ARun.ghost<|ImpX.eqs (s := 0) (av' := .sl 6 b_0 0 v48.length) J (congrArg (AV.sl 6 b_0 0) (lenOk_l e18))<|ImpX.here<|ARun.ghost<|ImpX.eqs (s := 186) (av' := .sl 6 b_0 0 v48.length) J (congrArg (AV.sl 6 b_0 0) (lenOk_l e18))<|ImpX.here<|rN<|ATodo.stop<|ImpX.lq [0] ⟨v48,h,J⟩ J J
                · exact have h := iteFb hc h; tK<|ATodo.stop<|ImpX.lq [0] ⟨p0x0,h,J⟩ J J
              · rintro σ' ⟨l47, h, rfl⟩
                unfold slices_symMergeCmpFunc_Signal_j6 at h
                refine tS<|tS<|ATodo.cut (fun σ'=>∃ (c49 : Bool),slices_symMergeCmpFunc_Signal_j7 self p1x0 p2x0 p3x0 fne n39 l47 c49 = some r ∧ σ' = ⟨220,[(0,.sl 6 b_0 0 l47.length),(1,I p1x0),(3,I p3x0),(4,.func (.func fne_F) fne_C),(18,I (w64 (shrI .u64 (IntKind.u64.wrap (w64 (p1x0 + p3x0))) (1 : Int)))),(20,I n39),(24,I (w64 ((w64 ((w64 (shrI .u64 (IntKind.u64.wrap (w64 (p1x0 + p3x0))) (1 : Int))) + p2x0)) - n39))),(199,.bool c49)],[(b_0,aE2 l47)]⟩) ?_ ?_
                · refine tR<|rM J J<|rM J J<|ARun.qv (q_lss J J) J<|rM J J<|ARun.guard_dt J J J (fun hc=>?_) (fun hc=>?_)
                  · rw [andTd hc] at h
                    exact rM J J<|rY J J J<|rM J J<|rY J J J<|ARun.qv (q_lss J J) J<|rT J J J<|rN<|ATodo.stop<|ImpX.lq [0] ⟨decide (n39 < (w64 (shrI .u64 (IntKind.u64.wrap (w64 (p1x0 + p3x0))) (1 : Int)))),h,J⟩ J J
                  · rw [andFd hc] at h
                    exact rG J J J J<|rG J J J J<|rE J J J<|rN<|ATodo.stop<|ImpX.lq [0] ⟨false,h,J⟩ J J
                · rintro σ' ⟨c49, h, rfl⟩
                  unfold slices_symMergeCmpFunc_Signal_j7 at h
                  refine ATodo.cut (fun σ'=>∃ (l50 : List Signal),slices_symMergeCmpFunc_Signal_j8 self p1x0 p2x0 p3x0 fne n39 l50 = some r ∧ σ' = ⟨220,[(0,.sl 6 b_0 0 l50.length),(3,I p3x0),(4,.func (.func fne_F) fne_C),(18,I (w64 (shrI .u64 (IntKind.u64.wrap (w64 (p1x0 + p3x0))) (1 : Int)))),(24,I (w64 ((w64 ((w64 (shrI .u64 (IntKind.u64.wrap (w64 (p1x0 + p3x0))) (1 : Int))) + p2x0)) - n39)))],[(b_0,aE2 l50)]⟩) ?_ ?_
                  · refine ATodo.cond J (fun hc=>?_) (fun hc=>?_)
                    · exact have h := iteT hc h; tR<|rM J J<|rM J J<|rM J J<|rM J J<|rM J J<|bndE h fun v51 e19 h=>t_call0 J (self_h fne_h (lenOk_f e19)) (CoL.refl _) (.cons .p0 .nil) J J<|ARun.ghost<|ImpX.eqs (s := 0) (av' := .sl 6 b_0 0 v51.length) J (congrArg (AV.sl 6 b_0 0) (lenOk_l e19))<|ImpX.here<|ARun.ghost<|ImpX.eqs (s := 200) (av' := .sl 6 b_0 0 v51.length) J (congrArg (AV.sl 6 b_0 0) (lenOk_l e19))<|ImpX.here<|rN<|ATodo.stop<|ImpX.lq [0] ⟨v51,h,J⟩ J J
                    · exact have h := iteFb hc h; tK<|ATodo.stop<|ImpX.lq [0] ⟨l47,h,J⟩ J J
                  · rintro σ' ⟨l50, h, rfl⟩
                    unfold slices_symMergeCmpFunc_Signal_j8 at h
                    refine tS<|ATodo.cut (fun σ'=>∃ (c52 : Bool),slices_symMergeCmpFunc_Signal_j9 self p1x0 p2x0 p3x0 fne n39 l50 c52 = some r ∧ σ' = ⟨220,[(0,.sl 6 b_0 0 l50.length),(3,I p3x0),(4,.func (.func fne_F) fne_C),(18,I (w64 (shrI .u64 (IntKind.u64.wrap (w64 (p1x0 + p3x0))) (1 : Int)))),(24,I (w64 ((w64 ((w64 (shrI .u64 (IntKind.u64.wrap (w64 (p1x0 + p3x0))) (1 : Int))) + p2x0)) - n39))),(213,.bool c52)],[(b_0,aE2 l50)]⟩) ?_ ?_
                    · refine tR<|rM J J<|rM J J<|ARun.qv (q_lss J J) J<|rM J J<|ARun.guard_dt J J J (fun hc=>?_) (fun hc=>?_)
                      · rw [andTd hc] at h
                        exact rM J J<|rY J J J<|rM J J<|rY J J J<|ARun.qv (q_lss J J) J<|rT J J J<|rN<|ATodo.stop<|ImpX.lq [0] ⟨decide ((w64 ((w64 ((w64 (shrI .u64 (IntKind.u64.wrap (w64 (p1x0 + p3x0))) (1 : Int))) + p2x0)) - n39)) < p3x0),h,J⟩ J J
                      · rw [andFd hc] at h
                        exact rG J J J J<|rG J J J J<|rE J J J<|rN<|ATodo.stop<|ImpX.lq [0] ⟨false,h,J⟩ J J
                    · rintro σ' ⟨c52, h, rfl⟩
                      unfold slices_symMergeCmpFunc_Signal_j9 at h
                      refine ATodo.cut (fun σ'=>∃ (l53 : List Signal),slices_symMergeCmpFunc_Signal_j10 l53 = some r ∧ σ' = ⟨220,[],[(b_0,aE2 l53)]⟩) ?_ ?_
                      · refine ATodo.cond J (fun hc=>?_) (fun hc=>?_)
                        · exact have h := iteT hc h; tR<|rM J J<|rM J J<|rM J J<|rM J J<|rM J J<|bndE h fun v54 e20 h=>t_call0 J (self_h fne_h (lenOk_f e20)) (CoL.refl _) (.cons .p0 .nil) J J<|ARun.ghost<|ImpX.eqs (s := 0) (av' := .sl 6 b_0 0 v54.length) J (congrArg (AV.sl 6 b_0 0) (lenOk_l e20))<|ImpX.here<|ARun.ghost<|ImpX.eqs (s := 214) (av' := .sl 6 b_0 0 v54.length) J (congrArg (AV.sl 6 b_0 0) (lenOk_l e20))<|ImpX.here<|rN<|ATodo.stop<|ImpX.lq [0] ⟨v54,h,J⟩ J J
                        · exact have h := iteFb hc h; tK<|ATodo.stop<|ImpX.lq [0] ⟨l50,h,J⟩ J J
                      · rintro σ' ⟨l53, h, rfl⟩
                        unfold slices_symMergeCmpFunc_Signal_j10 at h
                        refine ATodo.nil<|?_
                        obtain rfl := Option.some.inj h
                        exact ImpX.here ⟨_,.nil,_,.cons .p0 .nil,⟨J,J⟩⟩
theorem slices_symMergeCmpFunc_Signal_r_c [GI : GTab] : ∀ (k : Nat) {b_0 : Bk} {p0x0 : List Signal} {p1x0 : Int} {p2x0 : Int} {p3x0 : Int} {fne : Signal → Signal → Option Int} {fne_F : FuncId} [IsFn Tryz.prog fne_F] {fne_C : List AV} (fne_h : ∀ {y0 y1 : _} {u : Int},fne y0 y1 = some u → Pu Tryz.prog fne_F (Signal.av y0 :: Signal.av y1 ::  fne_C) (I u)) {r : (List Signal)},slices_symMergeCmpFunc_Signal_r k p0x0 p1x0 p2x0 p3x0 fne = some r → ACall Tryz.prog 185 [.sl 6 b_0 0 p0x0.length,I p1x0,I p2x0,I p3x0,.func (.func fne_F) fne_C] [(b_0,aE2 p0x0)] (T0 ([(b_0,aE2 r)]) (.tup [])) := by
  intro k
  induction k with
  | zero=>intro b_0 p0x0 p1x0 p2x0 p3x0 fne fne_F _ fne_C fne_h r h; cases h
  | succ k ih=>intro b_0 p0x0 p1x0 p2x0 p3x0 fne fne_F _ fne_C fne_h r h; exact slices_symMergeCmpFunc_Signal_bd_c ih fne_h h
theorem slices_symMergeCmpFunc_Signal_c [GI : GTab] {b_0 : Bk} {p0x0 : List Signal} {p1x0 : Int} {p2x0 : Int} {p3x0 : Int} {fne : Signal → Signal → Option Int} {fne_F : FuncId} [IsFn Tryz.prog fne_F] {fne_C : List AV} (fne_h : ∀ {y0 y1 : _} {u : Int},fne y0 y1 = some u → Pu Tryz.prog fne_F (Signal.av y0 :: Signal.av y1 ::  fne_C) (I u)) {r : (List Signal)} (h : slices_symMergeCmpFunc_Signal p0x0 p1x0 p2x0 p3x0 fne = some r) : ACall Tryz.prog 185 [.sl 6 b_0 0 p0x0.length,I p1x0,I p2x0,I p3x0,.func (.func fne_F) fne_C] [(b_0,aE2 p0x0)] (T0 ([(b_0,aE2 r)]) (.tup [])) := slices_symMergeCmpFunc_Signal_r_c depth fne_h h

theorem slices_stableCmpFunc_Signal_c [GI : GTab] {b_0 : Bk} {p0x0 : List Signal} {p1x0 : Int} {fnc : Signal → Signal → Option Int} {fnc_F : FuncId} [IsFn Tryz.prog fnc_F] {fnc_C : List AV} (fnc_h : ∀ {y0 y1 : _} {u : Int},fnc y0 y1 = some u → Pu Tryz.prog fnc_F (Signal.av y0 :: Signal.av y1 ::  fnc_C) (I u)) {r : (List Signal)} (h : slices_stableCmpFunc_Signal p0x0 p1x0 fnc = some r) : ACall Tryz.prog 141 [.sl 6 b_0 0 p0x0.length,I p1x0,.func (.func fnc_F) fnc_C] [(b_0,aE2 p0x0)] (T0 ([(b_0,aE2 r)]) (.tup [])) := by
  unfold slices_stableCmpFunc_Signal at h
  refine ACall.lessH ?_
  refine ACall.bodyN Tryz.func141 J Tryz.ntmps141 Tryz.results141 J J ?_
  refine tSR<|rA J J<|rN<|tSR<|rM J J<|rA J J<|rA J J<|rN<|tS<|ATodo.block<|ATodo.loopI (fun x : (List Signal) × Int × Int=>slices_stableCmpFunc_Signal_b1 p1x0 fnc x.1 x.2.1 x.2.2) (fun x σ'=>σ' = ⟨63,[(0,.sl 6 b_0 0 x.1.length),(1,I p1x0),(2,.func (.func fnc_F) fnc_C),(6,I (20 : Int)),(7,I x.2.1),(8,I x.2.2)],[(b_0,aE2 x.1)]⟩) h ?_ ?_
  · exact ImpX.lq [0] J J J
  · intro x z1 σ' J1 hmk h hJ1 hA1
    obtain ⟨l4, n5, n6⟩ := x
    obtain rfl := hmk
    replace h : slices_stableCmpFunc_Signal_b1 p1x0 fnc l4 n5 n6 = some z1 := h
    unfold slices_stableCmpFunc_Signal_b1 at h
    refine tS<|tSR<|rM J J<|rM J J<|ARun.qv (q_leq J J) J<|rN<|ATodo.cond_d J (fun hc=>?_) (fun hc=>?_)
    · refine have h := iteT hc h; tK<|ATodo.block<|tSR<|rM J J<|rM J J<|rM J J<|rM J J<|bndE h fun v7 e1 h=>t_call0 J (slices_insertionSortCmpFunc_Signal_c fnc_h (lenOk_f e1)) (CoL.refl _) (.cons .p0 .nil) J J<|ARun.ghost<|ImpX.eqs (s := 0) (av' := .sl 6 b_0 0 v7.length) J (congrArg (AV.sl 6 b_0 0) (lenOk_l e1))<|ImpX.here<|ARun.ghost<|ImpX.eqs (s := 14) (av' := .sl 6 b_0 0 v7.length) J (congrArg (AV.sl 6 b_0 0) (lenOk_l e1))<|ImpX.here<|rN<|tSR<|rM J J<|rA J J<|rN<|tR<|rM J J<|rM J J<|ARun.qv (q_addw J J) J<|rA J J<|rN<|ATodo.blk<|ATodo.stop<|?_
      obtain rfl := Option.some.inj h
      exact hJ1 _ _ J<|ImpX.lq [0] J J J
    · refine have h := iteF hc h; ATodo.exit J<|have h := outL h hA1; ?_
      unfold slices_stableCmpFunc_Signal_k3 at h
      refine tSR<|rM J J<|rM J J<|rM J J<|rM J J<|bndE h fun v8 e2 h=>t_call0 J (slices_insertionSortCmpFunc_Signal_c fnc_h (lenOk_f e2)) (CoL.refl _) (.cons .p0 .nil) J J<|ARun.ghost<|ImpX.eqs (s := 0) (av' := .sl 6 b_0 0 v8.length) J (congrArg (AV.sl 6 b_0 0) (lenOk_l e2))<|ImpX.here<|ARun.ghost<|ImpX.eqs (s := 23) (av' := .sl 6 b_0 0 v8.length) J (congrArg (AV.sl 6 b_0 0) (lenOk_l e2))<|ImpX.here<|rN<|ATodo.block<|ATodo.loopI (fun x : (List Signal) × Int=>slices_stableCmpFunc_Signal_b2 p1x0 fnc x.1 x.2) (fun x σ'=>σ' = ⟨63,[(0,.sl 6 b_0 0 x.1.length),(1,I p1x0),(2,.func (.func fnc_F) fnc_C),(6,I x.2)],[(b_0,aE2 x.1)]⟩) h ?_ ?_
      · exact ImpX.lq [0] J J J
      · intro x z2 σ' J2 hmk h hJ2 hA2
        obtain ⟨l11, n12⟩ := x
        obtain rfl := hmk
        replace h : slices_stableCmpFunc_Signal_b2 p1x0 fnc l11 n12 = some z2 := h
        unfold slices_stableCmpFunc_Signal_b2 at h
        refine tS<|tSR<|rM J J<|rM J J<|ARun.qv (q_lss J J) J<|rN<|ATodo.cond_d J (fun hc=>?_) (fun hc=>?_)
        · refine have h := iteT hc h; tK<|ATodo.block<|tSR<|rM J J<|ARun.qv (q_mulw J J) J<|rA J J<|rA J J<|rN<|tS<|ATodo.block<|ATodo.loopI (fun x : (List Signal) × Int × Int=>slices_stableCmpFunc_Signal_b3 p1x0 fnc n12 x.1 x.2.1 x.2.2) (fun x σ'=>σ' = ⟨63,[(0,.sl 6 b_0 0 x.1.length),(1,I p1x0),(2,.func (.func fnc_F) fnc_C),(6,I n12),(7,I x.2.1),(8,I x.2.2)],[(b_0,aE2 x.1)]⟩) h ?_ ?_
          · exact ImpX.lq [0] J J J
          · intro x z3 σ' J3 hmk h hJ3 hA3
            obtain ⟨l16, n17, n18⟩ := x
            obtain rfl := hmk
            replace h : slices_stableCmpFunc_Signal_b3 p1x0 fnc n12 l16 n17 n18 = some z3 := h
            unfold slices_stableCmpFunc_Signal_b3 at h
            refine tS<|tSR<|rM J J<|rM J J<|ARun.qv (q_leq J J) J<|rN<|ATodo.cond_d J (fun hc=>?_) (fun hc=>?_)
            · refine have h := iteT hc h; tK<|ATodo.block<|tSR<|rM J J<|rM J J<|rM J J<|rM J J<|ARun.qv (q_addw J J) J<|rM J J<|rM J J<|bndE h fun v19 e3 h=>t_call0 J (slices_symMergeCmpFunc_Signal_c fnc_h (lenOk_f e3)) (CoL.refl _) (.cons .p0 .nil) J J<|ARun.ghost<|ImpX.eqs (s := 0) (av' := .sl 6 b_0 0 v19.length) J (congrArg (AV.sl 6 b_0 0) (lenOk_l e3))<|ImpX.here<|ARun.ghost<|ImpX.eqs (s := 36) (av' := .sl 6 b_0 0 v19.length) J (congrArg (AV.sl 6 b_0 0) (lenOk_l e3))<|ImpX.here<|rN<|tSR<|rM J J<|rA J J<|rN<|tR<|rM J J<|rM J J<|ARun.qv (q_mulw J J) J<|ARun.qv (q_addw J J) J<|rA J J<|rN<|ATodo.blk<|ATodo.stop<|?_
              obtain rfl := Option.some.inj h
              exact hJ3 _ _ J<|ImpX.lq [0] J J J
            · refine have h := iteF hc h; ATodo.exit J<|have h := outL h hA3; ?_
              unfold slices_stableCmpFunc_Signal_k2 at h
              refine tS<|tSR<|rM J J<|rM J J<|ARun.qv (q_addw J J) J<|rA J J<|rN<|tSR<|rM J J<|rM J J<|ARun.qv (q_lss J J) J<|rN<|ATodo.cut (fun σ'=>∃ (l20 : List Signal),slices_stableCmpFunc_Signal_j1 n12 l20 = some z2 ∧ σ' = ⟨63,[(0,.sl 6 b_0 0 l20.length),(1,I p1x0),(2,.func (.func fnc_F) fnc_C),(6,I n12)],[(b_0,aE2 l20)]⟩) ?_ ?_
              · refine ATodo.cond_d J (fun hc=>?_) (fun hc=>?_)
                · exact have h := iteT hc h; tR<|rM J J<|rM J J<|rM J J<|rM J J<|rM J J<|bndE h fun v21 e4 h=>t_call0 J (slices_symMergeCmpFunc_Signal_c fnc_h (lenOk_f e4)) (CoL.refl _) (.cons .p0 .nil) J J<|ARun.ghost<|ImpX.eqs (s := 0) (av' := .sl 6 b_0 0 v21.length) J (congrArg (AV.sl 6 b_0 0) (lenOk_l e4))<|ImpX.here<|ARun.ghost<|ImpX.eqs (s := 55) (av' := .sl 6 b_0 0 v21.length) J (congrArg (AV.sl 6 b_0 0) (lenOk_l e4))<|ImpX.here<|rN<|ATodo.stop<|ImpX.lq [0] ⟨v21,h,J⟩ J J
                · exact have h := iteF hc h; tK<|ATodo.stop<|ImpX.lq [0] ⟨l16,h,J⟩ J J
              · rintro σ' ⟨l20, h, rfl⟩
                unfold slices_stableCmpFunc_Signal_j1 at h
                refine tR<|rM J J<|ARun.qv (q_mulw J J) J<|rA J J<|rN<|ATodo.blk<|ATodo.stop<|?_
                obtain rfl := Option.some.inj h
                exact hJ2 _ _ J<|ImpX.lq [0] J J J
        · refine have h := iteF hc h; ATodo.exit J<|have h := outL h hA2; ATodo.nil<|?_
          obtain rfl := Option.some.inj h
          exact ImpX.here ⟨_,.nil,_,.cons .p0 .nil,⟨J,J⟩⟩

theorem slices_SortStableFunc_Signal_Signal_c [GI : GTab] {b_0 : Bk} {p0x0 : List Signal} {fnb : Signal → Signal → Option Int} {fnb_F : FuncId} [IsFn Tryz.prog fnb_F] {fnb_C : List AV} (fnb_h : ∀ {y0 y1 : _} {u : Int},fnb y0 y1 = some u → Pu Tryz.prog fnb_F (Signal.av y0 :: Signal.av y1 ::  fnb_C) (I u)) {r : (List Signal)} (h : slices_SortStableFunc_Signal_Signal p0x0 fnb = some r) : ACall Tryz.prog 70 [.sl 6 b_0 0 p0x0.length,.func (.func fnb_F) fnb_C] [(b_0,aE2 p0x0)] (T0 ([(b_0,aE2 r)]) (.tup [])) := by
  unfold slices_SortStableFunc_Signal_Signal at h
  refine ACall.lessH ?_
  refine ACall.bodyN Tryz.func70 J Tryz.ntmps70 Tryz.results70 J J ?_
  refine tR<|rM J J<|rM J J<|ARun.qv (t_len_sl J) J<|rM J J<|bndE h fun v1 e1 h=>t_call0 J (slices_stableCmpFunc_Signal_c fnb_h (lenOk_f e1)) (CoL.refl _) (.cons .p0 .nil) J J<|ARun.ghost<|ImpX.eqs (s := 0) (av' := .sl 6 b_0 0 v1.length) J (congrArg (AV.sl 6 b_0 0) (lenOk_l e1))<|ImpX.here<|ARun.ghost<|ImpX.eqs (s := 4) (av' := .sl 6 b_0 0 v1.length) J (congrArg (AV.sl 6 b_0 0) (lenOk_l e1))<|ImpX.here<|ARun.ghost<|ImpX.eqs (s := 5) (av' := .sl 6 b_0 0 v1.length) J (congrArg (AV.sl 6 b_0 0) (lenOk_l e1))<|ImpX.here<|rN<|ATodo.nil<|?_
  obtain rfl := Option.some.inj h
  exact ImpX.here ⟨_,.nil,_,.cons .p0 .nil,⟨J,J⟩⟩

theorem Stream_Flip_c [GI : GTab] {b_0 : Bk} {p0x0 : Fleetmake_Stream} {p1x0 : Int} {r : Bool × Fleetmake_Stream} (h : Stream_Flip p0x0 p1x0 = some r) : ACall Tryz.prog 14 [.ptr b_0 0,I p1x0] [(b_0,.cells [lE0 p0x0.L,I p0x0.at_])] (T0 ([(b_0,.cells [lE0 r.2.L,I r.2.at_])]) (.bool r.1)) := by
  unfold Stream_Flip at h
  refine ACall.lessH ?_
  refine ACall.bodyN Tryz.func14 J Tryz.ntmps14 Tryz.results14 J J ?_
  refine tSR<|rA J J<|rN<|tSR<|rM J J<|rM J J<|bndE h fun v1 e1 h=>t_call0 J (Stream_Next_c e1) (CoL.refl _) (.cons .p0 .nil) J J<|ARun.qv (q_eql J J) J<|rA J J<|rN<|ATodo.ret<|?_
  obtain rfl := Option.some.inj h
  exact ImpX.here ⟨_,.cons (.tmp _ _ J) .nil,_,.cons .p0 .nil,⟨J,J⟩⟩

theorem Stream_Signals_1x_c [GI : GTab] {p0x0 : Signal} {p1x0 : Signal} {r : Bool} (h : Stream_Signals_1x p0x0 p1x0 = some r) : Pu Tryz.prog 73 [Signal.av p0x0,Signal.av p1x0] (.bool r) := by
  unfold Stream_Signals_1x at h
  refine ACall.bodyN Tryz.func73 J Tryz.ntmps73 Tryz.results73 J J ?_
  refine tSR<|n_box J J J J fun b1=>n_box J J J J fun b2=>rA J J<|rN<|tSR<|ARun.qv (q_load_ptr_all J J .p1 J) J<|ARun.qv (q_load_ptr_all J J .p0 J) J<|bndE h fun v3 e1 h=>r_callp J (Q_SignalOrder_c e1) (CoL.refl _) J<|ARun.qv (q_eql J J) J<|rA J J<|rN<|ATodo.ret<|?_
  obtain rfl := Option.some.inj h
  exact ImpX.here ⟨_,.cons (.tmp _ _ J) .nil,J⟩

theorem slices_CompactFunc_Signal_Signal_c [GI : GTab] {b_0 : Bk} {p0x0 : List Signal} {fnb : Signal → Signal → Option Bool} {fnb_F : FuncId} [IsFn Tryz.prog fnb_F] {fnb_C : List AV} (fnb_h : ∀ {y0 y1 : _} {u : Bool},fnb y0 y1 = some u → Pu Tryz.prog fnb_F (Signal.av y0 :: Signal.av y1 ::  fnb_C) (.bool u)) {r : (List Signal)} (h : slices_CompactFunc_Signal_Signal p0x0 fnb = some r) : ACall Tryz.prog 72 [.sl 6 b_0 0 p0x0.length,.func (.func fnb_F) fnb_C] [(b_0,aE2 p0x0)] (T1 (fun d_0=>[(d_0,aE2 r)]) (fun d_0=>.sl 6 d_0 0 r.length)) := by
  unfold slices_CompactFunc_Signal_Signal at h
  refine ACall.lessH ?_
  refine ACall.bodyN Tryz.func72 J Tryz.ntmps72 Tryz.results72 J J ?_
  refine tSR<|rA J J<|rN<|tS<|tSR<|rM J J<|ARun.qv (t_len_sl J) J<|ARun.qv (q_lss J J) J<|rN<|ATodo.cond_d J (fun hc=>?_) (fun hc=>?_)
  · refine have h := iteT hc h; tSR<|rM J J<|rA J J<|rN<|ATodo.ret<|?_
    obtain rfl := Option.some.inj h
    exact ImpX.here ⟨_,.cons (.tmp _ _ J) .nil,_,.cons .p0 .nil,⟨b_0,J,J⟩⟩
  · refine have h := iteF hc h; tK<|tS<|tSR<|rA J J<|rN<|ATodo.block<|ATodo.loopI (fun x : Int=>slices_CompactFunc_Signal_Signal_b1 p0x0 fnb x) (fun x σ'=>σ' = ⟨66,[(0,.sl 6 b_0 0 p0x0.length),(1,.func (.func fnb_F) fnb_C),(5,I x)],[(b_0,aE2 p0x0)]⟩) h ?_ ?_
    · exact ImpX.lq [0] J J J
    · intro n2 z1 σ' J1 hmk h hJ1 hA1
      obtain rfl := hmk
      replace h : slices_CompactFunc_Signal_Signal_b1 p0x0 fnb n2 = some z1 := h
      unfold slices_CompactFunc_Signal_Signal_b1 at h
      refine tS<|tSR<|rM J J<|rM J J<|ARun.qv (t_len_sl J) J<|ARun.qv (q_lss J J) J<|rN<|ATodo.cond_d J (fun hc=>?_) (fun hc=>?_)
      · refine have h := iteT hc h; tK<|tS<|ATodo.block<|tS<|ATodo.regionM (id := 6) (A := [0,0,0,6,14,0,0,64,224,480,1023]) 11 mixed J (by kernel_rfl) (by kernel_rfl)<|AM.qv (q_move J) J<|AM.qv (q_move J) J<|AM.qv (q_move J) J<|bndE h fun v3 e1 h=>AM.qv (t_index_sl J J J e1) J<|AM.qv (t_load_aptr_agg (g := Signal.av) J J (.inl .p0) J e1 J) J<|AM.qv (q_move J) J<|AM.qv (q_move J) J<|AM.qv (q_subw J J) J<|bndE h fun v4 e2 h=>AM.qv (t_index_sl J J J e2) J<|AM.qv (t_load_aptr_agg (g := Signal.av) J J (.inl .p0) J e2 J) J<|bndE h fun v5 e3 h=>AM.callvp J J (fnb_h e3) (CoL.refl _) J<|AM.nil<|rN<|ATodo.cond J (fun hc=>?_) (fun hc=>?_)
        · refine have h := iteT hc h; tSR<|rM J J<|rM J J<|bndE h fun l6 e4 h=>ARun.qv (t_slice_sl J J (.some _ _ _ J) .none J J e4) J<|rA J J<|rN<|tS<|tSR<|rA J J<|rN<|ATodo.block<|ATodo.loopI (fun x : (List Signal) × Int × Int=>slices_CompactFunc_Signal_Signal_b2 fnb n2 l6 x.1 x.2.1 x.2.2) (fun x σ'=>σ' = ⟨66,[(0,.sl 6 b_0 0 x.1.length),(1,.func (.func fnb_F) fnb_C),(5,I x.2.1),(6,.sl 6 b_0 n2.toNat l6.length),(7,I x.2.2)],[(b_0,aE2 x.1)]⟩) h ?_ ?_
          · exact ImpX.lq [0] J J J
          · intro x z2 σ' J2 hmk h hJ2 hA2
            obtain ⟨l10, n11, n12⟩ := x
            obtain rfl := hmk
            replace h : slices_CompactFunc_Signal_Signal_b2 fnb n2 l6 l10 n11 n12 = some z2 := h
            unfold slices_CompactFunc_Signal_Signal_b2 at h
            refine tS<|tSR<|rM J J<|rM J J<|ARun.qv (t_len_sub J) J<|ARun.qv (q_lss J J) J<|rN<|ATodo.cond_d J (fun hc=>?_) (fun hc=>?_)
            · refine have h := iteT hc h; tK<|tS<|ATodo.block<|tS<|ATodo.regionM (id := 11) (A := [0,0,0,6,14,0,0,64,224,480,1023,2047]) 12 mixed J (by kernel_rfl) (by kernel_rfl)<|AM.qv (q_move J) J<|AM.qv (q_move J) J<|AM.qv (q_move J) J<|bndE h fun v13 e5 h=>AM.qv (t_index_sub (L := n2) J J J e5) J<|AM.qv (t_load_aptr_agg (g := Signal.av) J J (.inl .p0) J (idxS_some e5).2 J) J<|AM.qv (q_move J) J<|AM.qv (q_move J) J<|AM.qv (q_subw J J) J<|bndE h fun v14 e6 h=>AM.qv (t_index_sub (L := n2) J J J e6) J<|AM.qv (t_load_aptr_agg (g := Signal.av) J J (.inl .p0) J (idxS_some e6).2 J) J<|bndE h fun v15 e7 h=>AM.callvp J J (fnb_h e7) (CoL.refl _) J<|AM.qv (q_not J) J<|AM.nil<|rN<|ATodo.cut (fun σ'=>∃ (l16 : List Signal) (n17 : Int),slices_CompactFunc_Signal_Signal_j1 n12 l16 n17 = some z2 ∧ σ' = ⟨66,[(0,.sl 6 b_0 0 l16.length),(1,.func (.func fnb_F) fnb_C),(5,I n17),(6,.sl 6 b_0 n2.toNat l6.length),(7,I n12)],[(b_0,aE2 l16)]⟩) ?_ ?_
              · refine ATodo.cond J (fun hc=>?_) (fun hc=>?_)
                · exact have h := iteT hc h; tSR<|rM J J<|rM J J<|rM J J<|rM J J<|bndE h fun v18 e8 h=>ARun.qv (t_index_sub (L := n2) J J J e8) J<|ARun.qv (t_load_aptr_agg (g := Signal.av) J J (.inl .p0) J (idxS_some e8).2 J) J<|bndE h fun v19 e9 h=>ARun.qv (t_index_sl J J J e9) J<|t_store_aptr1 (g := Signal.av) (el' := v18) J J J J e9 J .p0 J<|ARun.ghost<|ImpX.eqs (s := 0) (av' := .sl 6 b_0 0 (l10.set n11.toNat v18).length) J (by rw [List.length_set])<|ImpX.here<|ARun.ghost<|ImpX.eqs (s := 50) (av' := .sl 6 b_0 0 (l10.set n11.toNat v18).length) J (by rw [List.length_set])<|ImpX.here<|rN<|tR<|rM J J<|ARun.qv (q_addw J J) J<|rA J J<|rN<|ATodo.stop<|ImpX.lq [0] ⟨l10.set n11.toNat v18,w64 (n11 + (1 : Int)),h,J⟩ J J
                · exact have h := iteFb hc h; tK<|ATodo.stop<|ImpX.lq [0] ⟨l10,n11,h,J⟩ J J
              · rintro σ' ⟨l16, n17, h, rfl⟩
                unfold slices_CompactFunc_Signal_Signal_j1 at h
                refine ATodo.blk<|tR<|rM J J<|ARun.qv (q_addw J J) J<|rA J J<|rN<|ATodo.stop<|?_
                obtain rfl := Option.some.inj h
                exact hJ2 _ _ J<|ImpX.lq [0] J J J
            · refine have h := iteF hc h; ATodo.exit J<|have h := outL h hA2; ?_
              unfold slices_CompactFunc_Signal_Signal_k2 at h
              refine tSR<|rM J J<|rM J J<|bndE h fun l20 e10 h=>ARun.qv (t_slice_sl J J (.some _ _ _ J) .none J J e10) J<|t_clear (g := Signal.av) (Z := (⟨(0 : Int),(0 : Int),[],[],[],(0 : Int)⟩ : Signal)) (L := n11) J J J J J J e10 .p0<|ARun.ghost<|ImpX.eqs (s := 0) (av' := .sl 6 b_0 0 (clr l10 n11 l20.length (⟨(0 : Int),(0 : Int),[],[],[],(0 : Int)⟩ : Signal)).length) J (congrArg (AV.sl 6 b_0 0) (clr_len e10))<|ImpX.here<|ARun.ghost<|ImpX.eqs (s := 59) (av' := .sl 6 b_0 0 (clr l10 n11 l20.length (⟨(0 : Int),(0 : Int),[],[],[],(0 : Int)⟩ : Signal)).length) J (congrArg (AV.sl 6 b_0 0) (clr_len e10))<|ImpX.here<|rN<|tSR<|rM J J<|rM J J<|bndE h fun l21 e11 h=>ARun.qv (t_slice_sl J J .none (.some _ _ _ J) J J e11) J<|rA J J<|ARun.ghost<|ImpX.takeT e11 .p0<|ImpX.here<|rN<|ATodo.ret<|have h := outL h hA1; ?_
              obtain rfl := Option.some.inj h
              exact ImpX.here ⟨_,.cons (.tmp _ _ J) .nil,_,.cons .p0 .nil,⟨b_0,J,J⟩⟩
        · refine have h := iteFb hc h; tK<|ATodo.blk<|tR<|rM J J<|ARun.qv (q_addw J J) J<|rA J J<|rN<|ATodo.stop<|?_
          obtain rfl := Option.some.inj h
          exact hJ1 _ _ J<|ImpX.lq [0] J J J
      · refine have h := iteF hc h; ATodo.exit J<|have h := outL h hA1; tSR<|rM J J<|rA J J<|rN<|ATodo.ret<|?_
        obtain rfl := Option.some.inj h
        exact ImpX.here ⟨_,.cons (.tmp _ _ J) .nil,_,.cons .p0 .nil,⟨b_0,J,J⟩⟩

theorem Stream_Odd_c [GI : GTab] {b_0 : Bk} {p0x0 : Fleetmake_Stream} {p1x0 : Int} {p2x0 : Int} {r : Int × Fleetmake_Stream} (h : Stream_Odd p0x0 p1x0 p2x0 = some r) : ACall Tryz.prog 74 [.ptr b_0 0,I p1x0,I p2x0] [(b_0,.cells [lE0 p0x0.L,I p0x0.at_])] (T0 ([(b_0,.cells [lE0 r.2.L,I r.2.at_])]) (I r.1)) := by
  unfold Stream_Odd at h
  refine ACall.lessH ?_
  refine ACall.bodyN Tryz.func74 J Tryz.ntmps74 Tryz.results74 J J ?_
  refine tSR<|rA J J<|rN<|tS<|tSR<|rM J J<|bndE h fun v1 e1 h=>t_call0 J (Stream_Flip_c e1) (CoL.refl _) (.cons .p0 .nil) J J<|rN<|ATodo.cond J (fun hc=>?_) (fun hc=>?_)
  · refine have h := iteT hc h; tSR<|rM J J<|rM J J<|ARun.qv (q_subw J J) J<|rM J J<|ARun.qv (q_addw J J) J<|rM J J<|rM J J<|n_buildSliceL (xs := ([w64 (p1x0 - (1 : Int)),w64 (p2x0 + (1 : Int)),p1x0,p2x0,(-1099511627776 : Int),(1099511627776 : Int)]).map I) J J J J J J<|bndE h fun v2 e2 h=>t_call0 J (Stream_Pick_c e2) (CoL.refl _) (.cons .p0 .nil) J J<|rA J J<|rN<|ATodo.ret<|?_
    obtain rfl := Option.some.inj h
    exact ImpX.here ⟨_,.cons (.tmp _ _ J) .nil,_,.cons .p0 .nil,⟨J,J⟩⟩
  · refine have h := iteFb hc h; tK<|tSR<|rM J J<|rM J J<|rM J J<|bndE h fun v3 e3 h=>t_call0 J (Stream_Range_c e3) (CoL.refl _) (.cons .p0 .nil) J J<|rA J J<|rN<|ATodo.ret<|?_
    obtain rfl := Option.some.inj h
    exact ImpX.here ⟨_,.cons (.tmp _ _ J) .nil,_,.cons .p0 .nil,⟨J,J⟩⟩

theorem Stream_Signals_c [GI : GTab] {b_0 : Bk} {p0x0 : Fleetmake_Stream} {p1x0 : Int} {p2x0 : Bool} {r : (List Signal) × Fleetmake_Stream} (h : Stream_Signals p0x0 p1x0 p2x0 = some r) : ACall Tryz.prog 7 [.ptr b_0 0,I p1x0,.bool p2x0] [(b_0,.cells [lE0 p0x0.L,I p0x0.at_])] (T1 (fun d_0=>[(b_0,.cells [lE0 r.2.L,I r.2.at_]),(d_0,aE2 r.1)]) (fun d_0=>.sl 6 d_0 0 r.1.length)) := by
  unfold Stream_Signals at h
  refine ACall.lessH ?_
  refine ACall.bodyN Tryz.func7 J Tryz.ntmps7 Tryz.results7 J J ?_
  refine tSR<|rA J J<|rN<|tSR<|rA J J<|rN<|tSR<|rM J J<|bndE h fun v1 e1 h=>t_call0 J (Stream_Next_c e1) (CoL.refl _) (.cons .p0 .nil) J J<|rA J J<|rN<|tS<|tSR<|rM J J<|rM J J<|rN<|ATodo.block<|ATodo.loopI (fun x : (List Int) × Int × (List Signal) × Int × Int=>Stream_Signals_b1 p1x0 p2x0 x.1 x.2.1 x.2.2.1 x.2.2.2.1 x.2.2.2.2) (fun x σ'=>∃ (b10 : Bk),σ' = ⟨124,[(0,.ptr b_0 0),(2,.bool p2x0),(7,.sl 6 b10 0 x.2.2.1.length),(8,I x.2.2.2.1),(13,I p1x0),(14,I x.2.2.2.2)],[(b_0,.cells [lE0 x.1,I x.2.1]),(b10,aE2 x.2.2.1)]⟩) h ?_ ?_
  · exact ImpX.arr (s := 7) 6 J fun b14=>ImpX.lq [1,0] ⟨b14,J⟩ J J
  · intro x z1 σ' J1 hmk h hJ1 hA1
    obtain ⟨l8, n9, l11, n12, n13⟩ := x
    obtain ⟨b10, rfl⟩ := hmk
    replace h : Stream_Signals_b1 p1x0 p2x0 l8 n9 l11 n12 n13 = some z1 := h
    unfold Stream_Signals_b1 at h
    refine tSR<|ARun.qv (q_lss J J) J<|rN<|tS<|ATodo.cond_d J (fun hc=>?_) (fun hc=>?_)
    · refine have h := iteT hc h; tK<|tS<|ATodo.block<|tSR<|rM J J<|rM J J<|n_buildSliceL (xs := ([(1 : Int),(1 : Int),(2 : Int),(2 : Int),(3 : Int),(3 : Int),(4 : Int),(5 : Int)]).map I) J J J J J J<|bndE h fun v15 e2 h=>t_call0 J (Stream_Pick_c e2) (CoL.refl _) (.cons .p0 .nil) J J<|rM J J<|n_buildSliceL (xs := ([([100,97] : Str),([100,97] : Str),([100,98] : Str),([100,103] : Str)]).map AV.str) J J J J J J<|bndE h fun v16 e3 h=>t_call0 J (Stream_Some_c e3) (CoL.refl _) (.cons .p0 .nil) J J<|rM J J<|n_buildSliceL (xs := ([([114,97] : Str),([114,97] : Str),([114,98] : Str)]).map AV.str) J J J J J J<|bndE h fun v17 e4 h=>t_call0 J (Stream_Some_c e4) (CoL.refl _) (.cons .p0 .nil) J J<|ARun.qv (n_build J J J J J) J<|n_alloc J J J J fun b18=>n_store_ptr J J J J .p0 J J<|rN<|tS<|tSR<|rM J J<|rN<|ATodo.cut (fun σ'=>∃ (l19 : List Int) (n20 : Int) (n21 : Int),Stream_Signals_j1 l11 n12 n13 v16 v17 l19 n20 n21 = some z1 ∧ σ' = ⟨124,[(0,.ptr b_0 0),(2,.bool p2x0),(7,.sl 6 b10 0 l11.length),(8,I n12),(9,.ptr b18 0),(13,I p1x0),(14,I n13)],[(b_0,.cells [lE0 l19,I n20]),(b10,aE2 l11),(b18,.cells [I n12,I n21,.str v16.1,.str v17.1,.str [],I (0 : Int)])]⟩) ?_ ?_
      · refine ATodo.cond J (fun hc=>?_) (fun hc=>?_)
        · exact have h := iteT hc h; tR<|rM J J<|n_buildSliceL (xs := ([(3 : Int),(3 : Int),(4 : Int),(5 : Int)]).map I) J J J J J J<|bndE h fun v22 e5 h=>t_call0 J (Stream_Pick_c e5) (CoL.refl _) (.cons .p1 .nil) J J<|rF J J J<|n_store_ptr J J J J .p1 J J<|rN<|ATodo.stop<|ImpX.lq [0,1,0] ⟨v22.2.L,v22.2.at_,v22.1,h,J⟩ J J
        · exact have h := iteFb hc h; tK<|ATodo.stop<|ImpX.lq [1,1,0] ⟨v17.2.L,v17.2.at_,v15.1,h,J⟩ J J
      · rintro σ' ⟨l19, n20, n21, h, rfl⟩
        unfold Stream_Signals_j1 at h
        refine tS<|tSR<|rF J J J<|rL J J .p2 J J<|ARun.qv (q_geq J J) J<|rN<|ATodo.cut (fun σ'=>∃ (l23 : List Int) (n24 : Int) (q25 : Str),Stream_Signals_j2 l11 n12 n13 v16 v17 n21 l23 n24 q25 = some z1 ∧ σ' = ⟨124,[(0,.ptr b_0 0),(2,.bool p2x0),(7,.sl 6 b10 0 l11.length),(8,I n12),(9,.ptr b18 0),(13,I p1x0),(14,I n13)],[(b_0,.cells [lE0 l23,I n24]),(b10,aE2 l11),(b18,.cells [I n12,I n21,.str v16.1,.str v17.1,.str q25,I (0 : Int)])]⟩) ?_ ?_
        · refine ATodo.cond_d J (fun hc=>?_) (fun hc=>?_)
          · exact have h := iteT hc h; tR<|rM J J<|n_buildSliceL (xs := ([([97,110,110] : Str),([98,111,98] : Str)]).map AV.str) J J J J J J<|bndE h fun v26 e6 h=>t_call0 J (Stream_Some_c e6) (CoL.refl _) (.cons .p0 .nil) J J<|rF J J J<|n_store_ptr J J J J .p2 J J<|rN<|ATodo.stop<|ImpX.lq [0,0,0] ⟨v26.2.L,v26.2.at_,v26.1,h,J⟩ J J
          · exact have h := iteF hc h; tK<|ATodo.stop<|ImpX.lq [0,0,0] ⟨l19,n20,[],h,J⟩ J J
        · rintro σ' ⟨l23, n24, q25, h, rfl⟩
          unfold Stream_Signals_j2 at h
          refine tS<|tSR<|rF J J J<|rL J J .p2 J J<|ARun.qv (q_eql J J) J<|rN<|ATodo.cut (fun σ'=>∃ (l27 : List Int) (n28 : Int) (n29 : Int),Stream_Signals_j3 l11 n12 n13 v16 v17 n21 q25 l27 n28 n29 = some z1 ∧ σ' = ⟨124,[(0,.ptr b_0 0),(2,.bool p2x0),(7,.sl 6 b10 0 l11.length),(8,I n12),(9,.ptr b18 0),(13,I p1x0),(14,I n13)],[(b_0,.cells [lE0 l27,I n28]),(b10,aE2 l11),(b18,.cells [I n12,I n21,.str v16.1,.str v17.1,.str q25,I n29])]⟩) ?_ ?_
          · refine ATodo.cond_d J (fun hc=>?_) (fun hc=>?_)
            · exact have h := iteT hc h; tR<|rM J J<|rM J J<|n_buildSliceL (xs := ([(1 : Int),(10 : Int),(50 : Int)]).map I) J J J J J J<|bndE h fun v30 e7 h=>t_call0 J (Stream_Pick_c e7) (CoL.refl _) (.cons .p0 .nil) J J<|ARun.qv (q_addw J J) J<|rF J J J<|n_store_ptr J J J J .p2 J J<|rN<|ATodo.stop<|ImpX.lq [0,0,0] ⟨v30.2.L,v30.2.at_,w64 (n12 + v30.1),h,J⟩ J J
            · exact have h := iteF hc h; tK<|ATodo.stop<|ImpX.lq [0,0,0] ⟨l23,n24,(0 : Int),h,J⟩ J J
          · rintro σ' ⟨l27, n28, n29, h, rfl⟩
            unfold Stream_Signals_j3 at h
            refine tSR<|rM J J<|ARun.qv (q_load_ptr_all J J .p2 J) J<|n_buildSliceL (xs := ([(⟨n12,n21,v16.1,v17.1,q25,n29⟩ : Signal)]).map Signal.av) J J J J J J<|bndE h fun l31 e8 h=>t_append (g := Signal.av) J J J J J J J J (.list _) e8 (fun _=>.p1) J fun b32=>rA J J<|rN<|tR<|rM J J<|rM J J<|n_buildSliceL (xs := ([(0 : Int),(1 : Int),(3 : Int),(10 : Int),(40 : Int)]).map I) J J J J J J<|bndE h fun v33 e9 h=>t_call0 J (Stream_Pick_c e9) (CoL.refl _) (.cons .p0 .nil) J J<|ARun.qv (q_addw J J) J<|rA J J<|rN<|ATodo.blk<|tR<|ARun.qv (q_addw J J) J<|rM J J<|rN<|ATodo.stop<|?_
            obtain rfl := Option.some.inj h
            exact hJ1 _ _ J<|ImpX.lq [0,0] ⟨b32,J⟩ J J
    · refine have h := iteF hc h; ATodo.exit J<|have h := outL h hA1; ?_
      unfold Stream_Signals_k7 at h
      refine tSR<|rM J J<|bndE h fun v34 e10 h=>t_call0 J (slices_SortStableFunc_Signal_Signal_c (fun e=>Q_SignalOrder_c e) (lenOk_f e10)) (CoL.refl _) (.cons .p1 .nil) J J<|ARun.ghost<|ImpX.eqs (s := 7) (av' := .sl 6 b10 0 v34.length) J (congrArg (AV.sl 6 b10 0) (lenOk_l e10))<|ImpX.here<|ARun.ghost<|ImpX.eqs (s := 58) (av' := .sl 6 b10 0 v34.length) J (congrArg (AV.sl 6 b10 0) (lenOk_l e10))<|ImpX.here<|rN<|tS<|tSR<|rM J J<|bndE h fun v35 e11 h=>t_call0 J (Stream_Flip_c e11) (CoL.refl _) (.cons .p1 .nil) J J<|ARun.qv (q_not J) J<|rN<|ATodo.cut (fun σ'=>∃ (b36 : Bk) (l37 : List Signal),Stream_Signals_j4 v35 l37 = some r ∧ σ' = ⟨124,[(0,.ptr b_0 0),(7,.sl 6 b36 0 l37.length)],[(b_0,.cells [lE0 v35.2.L,I v35.2.at_]),(b36,aE2 l37)]⟩) ?_ ?_
      · refine ATodo.cond J (fun hc=>?_) (fun hc=>?_)
        · exact have h := iteT hc h; tR<|rM J J<|bndE h fun v38 e12 h=>t_call1 J (slices_CompactFunc_Signal_Signal_c (fun e=>Stream_Signals_1x_c e) e12) (CoL.refl _) (.cons .p1 .nil) (fun _=>J) J fun b39=>rA J J<|rN<|ATodo.stop<|ImpX.lq [1,0] ⟨b39,v38,h,J⟩ J J
        · exact have h := iteFb hc h; tK<|ATodo.stop<|ImpX.lq [0,0] ⟨b10,v34,h,J⟩ J J
      · rintro σ' ⟨b36, l37, h, rfl⟩
        unfold Stream_Signals_j4 at h
        refine tS<|tS<|ATodo.cut (fun σ'=>∃ (l40 : List Int) (n41 : Int) (c42 : Bool),Stream_Signals_j5 l37 l40 n41 c42 = some r ∧ σ' = ⟨124,[(0,.ptr b_0 0),(7,.sl 6 b36 0 l37.length),(71,.bool c42)],[(b_0,.cells [lE0 l40,I n41]),(b36,aE2 l37)]⟩) ?_ ?_
        · refine tR<|rM J J<|ARun.qv (t_len_sl J) J<|ARun.qv (q_gtr J J) J<|rM J J<|ARun.guard_dt J J J (fun hc=>?_) (fun hc=>?_)
          · exact have h := iteT hc h; rM J J<|rY J J J<|bndE h fun v43 e13 h=>t_call0 J (Stream_Flip_c e13) (CoL.refl _) (.cons .p0 .nil) J J<|rT J J J<|rN<|ATodo.stop<|ImpX.lq [0,0] ⟨v43.2.L,v43.2.at_,v43.1,h,J⟩ J J
          · exact have h := iteF hc h; rG J J J J<|rE J J J<|rN<|ATodo.stop<|ImpX.lq [0,0] ⟨v35.2.L,v35.2.at_,false,h,J⟩ J J
        · rintro σ' ⟨l40, n41, c42, h, rfl⟩
          unfold Stream_Signals_j5 at h
          refine ATodo.cut (fun σ'=>∃ (l44 : List Int) (n45 : Int) (l46 : List Signal),Stream_Signals_j6 l44 n45 l46 = some r ∧ σ' = ⟨124,[(7,.sl 6 b36 0 l46.length)],[(b_0,.cells [lE0 l44,I n45]),(b36,aE2 l46)]⟩) ?_ ?_
          · refine ATodo.cond J (fun hc=>?_) (fun hc=>?_)
            · refine have h := iteT hc h; tSR<|rM J J<|rM J J<|rM J J<|ARun.qv (t_len_sl J) J<|bndE h fun v47 e14 h=>t_call0 J (Stream_Next_c e14) (CoL.refl _) (.cons .p0 .nil) J J<|bndE h fun v48 e15 h=>ARun.qv (t_index_sl J J J e15) J<|rA J J<|rN<|bndE h fun v49 e16 h=>bndE h fun v50 e17 h=>bndE h fun v51 e18 h=>bndE h fun v52 e19 h=>ATodo.regionT (id := 20) (A := [0,0,0,0,0,0,32,96,224,480,1008,0,4080,0,0,16384,49152,114688,245760,524272,0,0,2097152,6291456,14680064,0,33554432,100663296,234881024,0,536870912,1610612736,3758096384,8053063680,16642998272,34357641216,68719476720,137438953457,274877906929,549755813873,1099511627763,2199023255539,4398046511091,8796093022199,17592186044407,35184372088823,70368744177663,140737488355327,281474976710655]) (H0 := [(b_0,.cells [lE0 v47.2.L,I v47.2.at_]),(b36,aE2 l37)]) (HH := fun β=>[(b_0,.cells [lE0 v52.2.L,I v52.2.at_]),(b36,aE2 (((l37.set v47.1.toNat (⟨v49.1,v48.Kind,v48.Device,v48.Rule,v48.By,v48.Until⟩ : Signal)).set v47.1.toNat (⟨v49.1,v50.1,v48.Device,v48.Rule,v48.By,v48.Until⟩ : Signal)).set v47.1.toNat (⟨v49.1,v50.1,v48.Device,v48.Rule,v51.1,v48.Until⟩ : Signal)))]) 46 mixed J (by kernel_rfl) (by kernel_rfl) [⟨none,some 10,[],fun _=>(b_0,.cells [lE0 v47.2.L,I v47.2.at_]),none,[]⟩,⟨none,some 39,[8,17,24,28,32],fun _=>(b36,aE2 l37),none,[]⟩,⟨some 10,some 12,[],fun _=>(b_0,.cells [lE0 v49.2.L,I v49.2.at_]),none,[]⟩,⟨some 12,some 19,[],fun _=>(b_0,.cells [lE0 v50.2.L,I v50.2.at_]),none,[]⟩,⟨some 19,some 36,[],fun _=>(b_0,.cells [lE0 v51.2.L,I v51.2.at_]),none,[]⟩,⟨some 36,none,[],fun _=>(b_0,.cells [lE0 v52.2.L,I v52.2.at_]),none,[]⟩,⟨some 39,some 42,[],fun _=>(b36,aE2 (l37.set v47.1.toNat (⟨v49.1,v48.Kind,v48.Device,v48.Rule,v48.By,v48.Until⟩ : Signal))),none,[]⟩,⟨some 42,some 45,[],fun _=>(b36,aE2 ((l37.set v47.1.toNat (⟨v49.1,v48.Kind,v48.Device,v48.Rule,v48.By,v48.Until⟩ : Signal)).set v47.1.toNat (⟨v49.1,v50.1,v48.Device,v48.Rule,v48.By,v48.Until⟩ : Signal))),none,[]⟩,⟨some 45,none,[],fun _=>(b36,aE2 (((l37.set v47.1.toNat (⟨v49.1,v48.Kind,v48.Device,v48.Rule,v48.By,v48.Until⟩ : Signal)).set v47.1.toNat (⟨v49.1,v50.1,v48.Device,v48.Rule,v48.By,v48.Until⟩ : Signal)).set v47.1.toNat (⟨v49.1,v50.1,v48.Device,v48.Rule,v51.1,v48.Until⟩ : Signal))),none,[]⟩] [] J (by kernel_rfl) J (.cons .p0 (.cons .p0 .nil)) (fun _=>J)<|AT.am 8 J J<|AM.qv (q_move J) J<|AM.qv (q_move J) J<|AM.qv (q_move J) J<|AM.qv (q_move J) J<|AM.qv (q_move J) J<|AM.qv (q_move J) J<|AM.qv (q_nilCheck_aptr J) J<|AM.qv (t_field_aptr J J) J<|AM.nil<|AT.rd (Rs := [(b36,aE2 l37)]) (fun _=>J) J (fun _=>J) (fun _=>J) (t_load_aptr (g := Signal.av) J J (.inl .p0) e15 J) J<|AT.am 1 J J<|AM.buildSliceL (xs := ([v48.At,(-1 : Int),(345686400000 : Int)]).map I) J J J J J J<|AM.nil<|AT.runS (av := I v49.1) (Ti := [(b_0,.cells [lE0 v47.2.L,I v47.2.at_])]) (Pi := [(b_0,.cells [lE0 v49.2.L,I v49.2.at_])]) (fun _=>J) (fun _=>J) (fun _=>J) J J J ?_ ?_
              · exact t_call0 J (Stream_Pick_c e16) (CoL.refl _) (.cons .p0 .nil) J J<|ARun.nil ⟨_,J,J⟩
              refine AT.am 1 J J<|AM.qv (q_move J) J<|AM.nil<|AT.runS (av := I v50.1) (Ti := [(b_0,.cells [lE0 v49.2.L,I v49.2.at_])]) (Pi := [(b_0,.cells [lE0 v50.2.L,I v50.2.at_])]) (fun _=>J) (fun _=>J) (fun _=>J) J J J ?_ ?_
              · exact t_call0 J (Stream_Odd_c e17) (CoL.refl _) (.cons .p0 .nil) J J<|ARun.nil ⟨_,J,J⟩
              refine AT.am 4 J J<|AM.qv (q_move J) J<|AM.qv (q_move J) J<|AM.qv (q_nilCheck_aptr J) J<|AM.qv (t_field_aptr J J) J<|AM.nil<|AT.rd (Rs := [(b36,aE2 l37)]) (fun _=>J) J (fun _=>J) (fun _=>J) (t_load_aptr (g := Signal.av) J J (.inl .p0) e15 J) J<|AT.am 1 J J<|AM.buildSliceL (xs := ([v48.By,([] : Str),([65] : Str)]).map AV.str) J J J J J J<|AM.nil<|AT.runS (av := .str v51.1) (Ti := [(b_0,.cells [lE0 v50.2.L,I v50.2.at_])]) (Pi := [(b_0,.cells [lE0 v51.2.L,I v51.2.at_])]) (fun _=>J) (fun _=>J) (fun _=>J) J J J ?_ ?_
              · exact t_call0 J (Stream_Some_c e18) (CoL.refl _) (.cons .p0 .nil) J J<|ARun.nil ⟨_,J,J⟩
              refine AT.am 4 J J<|AM.qv (q_move J) J<|AM.qv (q_move J) J<|AM.qv (q_nilCheck_aptr J) J<|AM.qv (t_field_aptr J J) J<|AM.nil<|AT.rd (Rs := [(b36,aE2 l37)]) (fun _=>J) J (fun _=>J) (fun _=>J) (t_load_aptr (g := Signal.av) J J (.inl .p0) e15 J) J<|AT.am 3 J J<|AM.qv (q_move J) J<|AM.qv (q_nilCheck_aptr J) J<|AM.qv (t_field_aptr J J) J<|AM.nil<|AT.rd (Rs := [(b36,aE2 l37)]) (fun _=>J) J (fun _=>J) (fun _=>J) (t_load_aptr (g := Signal.av) J J (.inl .p0) e15 J) J<|AT.am 3 J J<|AM.qv (q_move J) J<|AM.qv (q_nilCheck_aptr J) J<|AM.qv (t_field_aptr J J) J<|AM.nil<|AT.rd (Rs := [(b36,aE2 l37)]) (fun _=>J) J (fun _=>J) (fun _=>J) (t_load_aptr (g := Signal.av) J J (.inl .p0) e15 J) J<|AT.am 3 J J<|AM.qv (q_addw J J) J<|AM.qv (q_addw J J) J<|AM.buildSliceL (xs := ([v48.Until,(0 : Int),v48.At,w64 ((w64 (v48.At + (2592000000 : Int))) + (1 : Int))]).map I) J J J J J J<|AM.nil<|AT.runS (av := I v52.1) (Ti := [(b_0,.cells [lE0 v51.2.L,I v51.2.at_])]) (Pi := [(b_0,.cells [lE0 v52.2.L,I v52.2.at_])]) (fun _=>J) (fun _=>J) (fun _=>J) J J J ?_ ?_
              · exact t_call0 J (Stream_Pick_c e19) (CoL.refl _) (.cons .p0 .nil) J J<|ARun.nil ⟨_,J,J⟩
              refine AT.am 2 J J<|AM.qv (q_nilCheck_aptr J) J<|AM.qv (t_field_aptr J J) J<|AM.nil<|AT.run0 (Ti := [(b36,aE2 l37)]) (Pi := [(b36,aE2 (l37.set v47.1.toNat (⟨v49.1,v48.Kind,v48.Device,v48.Rule,v48.By,v48.Until⟩ : Signal)))]) (fun _=>J) (fun _=>J) (fun _=>J) J J ?_ ?_
              · exact t_store_aptr1 (g := Signal.av) (el' := (⟨v49.1,v48.Kind,v48.Device,v48.Rule,v48.By,v48.Until⟩ : Signal)) J J J J e15 J .p0 J<|ARun.nil ⟨_,J⟩
              refine AT.am 2 J J<|AM.qv (q_nilCheck_aptr J) J<|AM.qv (t_field_aptr J J) J<|AM.nil<|AT.run0 (Ti := [(b36,aE2 (l37.set v47.1.toNat (⟨v49.1,v48.Kind,v48.Device,v48.Rule,v48.By,v48.Until⟩ : Signal)))]) (Pi := [(b36,aE2 ((l37.set v47.1.toNat (⟨v49.1,v48.Kind,v48.Device,v48.Rule,v48.By,v48.Until⟩ : Signal)).set v47.1.toNat (⟨v49.1,v50.1,v48.Device,v48.Rule,v48.By,v48.Until⟩ : Signal)))]) (fun _=>J) (fun _=>J) (fun _=>J) J J ?_ ?_
              · exact t_store_aptr1 (g := Signal.av) (el' := (⟨v49.1,v50.1,v48.Device,v48.Rule,v48.By,v48.Until⟩ : Signal)) J J J J (idx_set_self (v := (⟨v49.1,v48.Kind,v48.Device,v48.Rule,v48.By,v48.Until⟩ : Signal)) e15) J .p0 J<|ARun.nil ⟨_,J⟩
              refine AT.am 2 J J<|AM.qv (q_nilCheck_aptr J) J<|AM.qv (t_field_aptr J J) J<|AM.nil<|AT.run0 (Ti := [(b36,aE2 ((l37.set v47.1.toNat (⟨v49.1,v48.Kind,v48.Device,v48.Rule,v48.By,v48.Until⟩ : Signal)).set v47.1.toNat (⟨v49.1,v50.1,v48.Device,v48.Rule,v48.By,v48.Until⟩ : Signal)))]) (Pi := [(b36,aE2 (((l37.set v47.1.toNat (⟨v49.1,v48.Kind,v48.Device,v48.Rule,v48.By,v48.Until⟩ : Signal)).set v47.1.toNat (⟨v49.1,v50.1,v48.Device,v48.Rule,v48.By,v48.Until⟩ : Signal)).set v47.1.toNat (⟨v49.1,v50.1,v48.Device,v48.Rule,v51.1,v48.Until⟩ : Signal)))]) (fun _=>J) (fun _=>J) (fun _=>J) J J ?_ ?_
              · exact t_store_aptr1 (g := Signal.av) (el' := (⟨v49.1,v50.1,v48.Device,v48.Rule,v51.1,v48.Until⟩ : Signal)) J J J J (idx_set_self (v := (⟨v49.1,v50.1,v48.Device,v48.Rule,v48.By,v48.Until⟩ : Signal)) (idx_set_self (v := (⟨v49.1,v48.Kind,v48.Device,v48.Rule,v48.By,v48.Until⟩ : Signal)) e15)) J .p0 J<|ARun.nil ⟨_,J⟩
              exact AT.nilN (fun _=>J) fun β=>ARun.ghost<|ImpX.eqs (s := 7) (av' := .sl 6 b36 0 (((l37.set v47.1.toNat (⟨v49.1,v48.Kind,v48.Device,v48.Rule,v48.By,v48.Until⟩ : Signal)).set v47.1.toNat (⟨v49.1,v50.1,v48.Device,v48.Rule,v48.By,v48.Until⟩ : Signal)).set v47.1.toNat (⟨v49.1,v50.1,v48.Device,v48.Rule,v51.1,v48.Until⟩ : Signal)).length) J (by simp)<|ImpX.here<|ARun.ghost<|ImpX.eqs (s := 72) (av' := .sl 6 b36 0 (((l37.set v47.1.toNat (⟨v49.1,v48.Kind,v48.Device,v48.Rule,v48.By,v48.Until⟩ : Signal)).set v47.1.toNat (⟨v49.1,v50.1,v48.Device,v48.Rule,v48.By,v48.Until⟩ : Signal)).set v47.1.toNat (⟨v49.1,v50.1,v48.Device,v48.Rule,v51.1,v48.Until⟩ : Signal)).length) J (by simp)<|ImpX.here<|ARun.ghost<|ImpX.eqs (s := 74) (av' := .sl 6 b36 0 (((l37.set v47.1.toNat (⟨v49.1,v48.Kind,v48.Device,v48.Rule,v48.By,v48.Until⟩ : Signal)).set v47.1.toNat (⟨v49.1,v50.1,v48.Device,v48.Rule,v48.By,v48.Until⟩ : Signal)).set v47.1.toNat (⟨v49.1,v50.1,v48.Device,v48.Rule,v51.1,v48.Until⟩ : Signal)).length) J (by simp)<|ImpX.here<|ARun.qv (q_nilCheck_aptr J) J<|ARun.qv (t_field_aptr J J) J<|t_store_aptr1 (g := Signal.av) (el' := (⟨v49.1,v50.1,v48.Device,v48.Rule,v51.1,v52.1⟩ : Signal)) J J J J (idx_set_self (v := (⟨v49.1,v50.1,v48.Device,v48.Rule,v51.1,v48.Until⟩ : Signal)) (idx_set_self (v := (⟨v49.1,v50.1,v48.Device,v48.Rule,v48.By,v48.Until⟩ : Signal)) (idx_set_self (v := (⟨v49.1,v48.Kind,v48.Device,v48.Rule,v48.By,v48.Until⟩ : Signal)) e15))) J .p1 J<|ARun.ghost<|ImpX.eqs (s := 7) (av' := .sl 6 b36 0 ((((l37.set v47.1.toNat (⟨v49.1,v48.Kind,v48.Device,v48.Rule,v48.By,v48.Until⟩ : Signal)).set v47.1.toNat (⟨v49.1,v50.1,v48.Device,v48.Rule,v48.By,v48.Until⟩ : Signal)).set v47.1.toNat (⟨v49.1,v50.1,v48.Device,v48.Rule,v51.1,v48.Until⟩ : Signal)).set v47.1.toNat (⟨v49.1,v50.1,v48.Device,v48.Rule,v51.1,v52.1⟩ : Signal)).length) J (by rw [List.length_set])<|ImpX.here<|ARun.ghost<|ImpX.eqs (s := 72) (av' := .sl 6 b36 0 ((((l37.set v47.1.toNat (⟨v49.1,v48.Kind,v48.Device,v48.Rule,v48.By,v48.Until⟩ : Signal)).set v47.1.toNat (⟨v49.1,v50.1,v48.Device,v48.Rule,v48.By,v48.Until⟩ : Signal)).set v47.1.toNat (⟨v49.1,v50.1,v48.Device,v48.Rule,v51.1,v48.Until⟩ : Signal)).set v47.1.toNat (⟨v49.1,v50.1,v48.Device,v48.Rule,v51.1,v52.1⟩ : Signal)).length) J (by rw [List.length_set])<|ImpX.here<|ARun.ghost<|ImpX.eqs (s := 74) (av' := .sl 6 b36 0 ((((l37.set v47.1.toNat (⟨v49.1,v48.Kind,v48.Device,v48.Rule,v48.By,v48.Until⟩ : Signal)).set v47.1.toNat (⟨v49.1,v50.1,v48.Device,v48.Rule,v48.By,v48.Until⟩ : Signal)).set v47.1.toNat (⟨v49.1,v50.1,v48.Device,v48.Rule,v51.1,v48.Until⟩ : Signal)).set v47.1.toNat (⟨v49.1,v50.1,v48.Device,v48.Rule,v51.1,v52.1⟩ : Signal)).length) J (by rw [List.length_set])<|ImpX.here<|rN<|ATodo.stop<|ImpX.lq [0,0] ⟨v52.2.L,v52.2.at_,(((l37.set v47.1.toNat (⟨v49.1,v48.Kind,v48.Device,v48.Rule,v48.By,v48.Until⟩ : Signal)).set v47.1.toNat (⟨v49.1,v50.1,v48.Device,v48.Rule,v48.By,v48.Until⟩ : Signal)).set v47.1.toNat (⟨v49.1,v50.1,v48.Device,v48.Rule,v51.1,v48.Until⟩ : Signal)).set v47.1.toNat (⟨v49.1,v50.1,v48.Device,v48.Rule,v51.1,v52.1⟩ : Signal),h,J⟩ J J
            · exact have h := iteFb hc h; tK<|ATodo.stop<|ImpX.lq [0,0] ⟨l40,n41,l37,h,J⟩ J J
          · rintro σ' ⟨l44, n45, l46, h, rfl⟩
            unfold Stream_Signals_j6 at h
            refine tSR<|rM J J<|rA J J<|rN<|ATodo.ret<|?_
            obtain rfl := Option.some.inj h
            exact ImpX.here ⟨_,.cons (.tmp _ _ J) .nil,_,.cons .p0 (.cons .p0 .nil),⟨b36,J,J⟩⟩

theorem Stream_Flap_c [GI : GTab] {b_0 : Bk} {p0x0 : Fleetmake_Stream} {r : Flap × Fleetmake_Stream} (h : Stream_Flap p0x0 = some r) : ACall Tryz.prog 61 [.ptr b_0 0] [(b_0,.cells [lE0 p0x0.L,I p0x0.at_])] (T0 ([(b_0,.cells [lE0 r.2.L,I r.2.at_])]) (Flap.av r.1)) := by
  unfold Stream_Flap at h
  refine ACall.lessH ?_
  refine ACall.bodyN Tryz.func61 J Tryz.ntmps61 Tryz.results61 J J ?_
  refine tSR<|n_alloc J J J J fun b1=>rN<|tSR<|rM J J<|n_buildSliceL (xs := ([(2 : Int),(2 : Int),(3 : Int)]).map I) J J J J J J<|bndE h fun v2 e1 h=>t_call0 J (Stream_Pick_c e1) (CoL.refl _) (.cons .p1 .nil) J J<|rM J J<|n_buildSliceL (xs := ([(10 : Int),(30 : Int),(100 : Int)]).map I) J J J J J J<|bndE h fun v3 e2 h=>t_call0 J (Stream_Pick_c e2) (CoL.refl _) (.cons .p0 .nil) J J<|rM J J<|n_buildSliceL (xs := ([(5 : Int),(20 : Int),(60 : Int)]).map I) J J J J J J<|bndE h fun v4 e3 h=>t_call0 J (Stream_Pick_c e3) (CoL.refl _) (.cons .p0 .nil) J J<|ARun.qv (n_build J J J J J) J<|n_alloc J J J J fun b5=>n_store_ptr J J J J .p0 J J<|rN<|tS<|tSR<|rM J J<|bndE h fun v6 e4 h=>t_call0 J (Stream_Flip_c e4) (CoL.refl _) (.cons .p1 .nil) J J<|rN<|ATodo.cut (fun σ'=>∃ (l7 : List Int) (n8 : Int) (n9 : Int) (n10 : Int) (n11 : Int),Stream_Flap_j1 l7 n8 n9 n10 n11 = some r ∧ σ' = ⟨24,[(2,.ptr b1 0),(3,.ptr b5 0)],[(b_0,.cells [lE0 l7,I n8]),(b1,.cells [I (0 : Int),I (0 : Int),I (0 : Int)]),(b5,.cells [I n9,I n10,I n11])]⟩) ?_ ?_
  · refine ATodo.cond J (fun hc=>?_) (fun hc=>?_)
    · exact have h := iteT hc h; tR<|rM J J<|bndE h fun v12 e5 h=>t_call0 J (Stream_Odd_c e5) (CoL.refl _) (.cons .p0 .nil) J J<|rM J J<|bndE h fun v13 e6 h=>t_call0 J (Stream_Odd_c e6) (CoL.refl _) (.cons .p0 .nil) J J<|rM J J<|bndE h fun v14 e7 h=>t_call0 J (Stream_Odd_c e7) (CoL.refl _) (.cons .p0 .nil) J J<|ARun.qv (n_build J J J J J) J<|n_store_ptr J J J J .p1 J J<|rN<|ATodo.stop<|ImpX.lq [0,1,0] ⟨v14.2.L,v14.2.at_,v12.1,v13.1,v14.1,h,J⟩ J J
    · exact have h := iteFb hc h; tK<|ATodo.stop<|ImpX.lq [0,1,0] ⟨v6.2.L,v6.2.at_,v2.1,v3.1,v4.1,h,J⟩ J J
  · rintro σ' ⟨l7, n8, n9, n10, n11, h, rfl⟩
    unfold Stream_Flap_j1 at h
    refine tSR<|ARun.qv (q_load_ptr_all J J .p2 J) J<|n_store_ptr J J J J .p1 J J<|rN<|ATodo.ret<|?_
    obtain rfl := Option.some.inj h
    exact ImpX.here ⟨_,.cons (.all _ _ _ _ _ _ J .p1 TUnder.h TInfo.h J J) .nil,_,.cons .p0 .nil,⟨J,J⟩⟩

theorem Stream_Time_c [GI : GTab] {b_0 : Bk} {p0x0 : Fleetmake_Stream} {r : Int × Fleetmake_Stream} (h : Stream_Time p0x0 = some r) : ACall Tryz.prog 10 [.ptr b_0 0] [(b_0,.cells [lE0 p0x0.L,I p0x0.at_])] (T0 ([(b_0,.cells [lE0 r.2.L,I r.2.at_])]) (I r.1)) := by
  unfold Stream_Time at h
  refine ACall.lessH ?_
  refine ACall.bodyN Tryz.func10 J Tryz.ntmps10 Tryz.results10 J J ?_
  refine tSR<|rA J J<|rN<|tSR<|rM J J<|rM J J<|bndE h fun v1 e1 h=>t_call0 J (Stream_Next_c e1) (CoL.refl _) (.cons .p0 .nil) J J<|rM J J<|bndE h fun v2 e2 h=>t_call0 J (Stream_Next_c e2) (CoL.refl _) (.cons .p0 .nil) J J<|rM J J<|n_buildSliceL (xs := ([(345686399999 : Int),(-1 : Int),(345686400000 : Int)]).map I) J J J J J J<|bndE h fun v3 e3 h=>t_call0 J (Stream_Pick_c e3) (CoL.refl _) (.cons .p0 .nil) J J<|n_buildSliceL (xs := ([(0 : Int),(5 : Int),(20 : Int),(40 : Int),(60 : Int),(80 : Int),(120 : Int),v1.1,v2.1,v3.1]).map I) J J J J J J<|bndE h fun v4 e4 h=>t_call0 J (Stream_Pick_c e4) (CoL.refl _) (.cons .p0 .nil) J J<|rA J J<|rN<|ATodo.ret<|?_
  obtain rfl := Option.some.inj h
  exact ImpX.here ⟨_,.cons (.tmp _ _ J) .nil,_,.cons .p0 .nil,⟨J,J⟩⟩

theorem Q_in_c [GI : GTab] {p0x0 : Int} {p1x0 : Int} {p2x0 : Int} {r : Bool} (h : Q_in p0x0 p1x0 p2x0 = r) : Pu Tryz.prog 77 [I p0x0,I p1x0,I p2x0] (.bool r) := by
  unfold Q_in at h
  refine ACall.bodyN Tryz.func77 J Tryz.ntmps77 Tryz.results77 J J ?_
  refine tSR<|rA J J<|rN<|tS<|ATodo.cut (fun σ'=>∃ (c1 : Bool),Q_in_j1 c1 = r ∧ σ' = ⟨15,[(6,.bool c1)],[]⟩) ?_ ?_
  · refine tR<|rM J J<|rM J J<|ARun.qv (q_leq J J) J<|rM J J<|ARun.guard_dt J J J (fun hc=>?_) (fun hc=>?_)
    · rw [andTd hc] at h
      exact rM J J<|rY J J J<|rM J J<|rY J J J<|ARun.qv (q_leq J J) J<|rT J J J<|rA J J<|rN<|ATodo.stop<|ImpX.lq [] ⟨decide (p0x0 ≤ p2x0),h,J⟩ J J
    · rw [andFd hc] at h
      exact rG J J J J<|rG J J J J<|rE J J J<|rA J J<|rN<|ATodo.stop<|ImpX.lq [] ⟨false,h,J⟩ J J
  · rintro σ' ⟨c1, h, rfl⟩
    unfold Q_in_j1 at h
    refine ATodo.ret<|?_
    obtain rfl := h
    exact ImpX.here ⟨_,.cons (.tmp _ _ J) .nil,J⟩

theorem Q_MomentFault_c [GI : GTab] {p0x0 : Int} {r : Int} (h : Q_MomentFault p0x0 = r) : Pu Tryz.prog 27 [I p0x0] (I r) := by
  unfold Q_MomentFault at h
  refine ACall.bodyN Tryz.func27 J Tryz.ntmps27 Tryz.results27 J J ?_
  refine tSR<|rA J J<|rN<|tS<|tSR<|rM J J<|r_callp J (Q_in_c J) (CoL.refl _) J<|ARun.qv (q_not J) J<|rN<|ATodo.cond J (fun hc=>?_) (fun hc=>?_)
  · refine have h := iteT hc h; tSR<|rA J J<|rN<|ATodo.ret<|?_
    obtain rfl := h
    exact ImpX.here ⟨_,.cons (.tmp _ _ J) .nil,J⟩
  · refine have h := iteFb hc h; tK<|tSR<|rA J J<|rN<|ATodo.ret<|?_
    obtain rfl := h
    exact ImpX.here ⟨_,.cons (.tmp _ _ J) .nil,J⟩

theorem Q_Key_c {p0x0 : Str} {r : Bool} (h : Q_Key p0x0 = some r) : Pu Tryz.prog 76 [.str p0x0] (.bool r) := by
  unfold Q_Key at h
  refine ACall.bodyN Tryz.func76 J Tryz.ntmps76 Tryz.results76 J J ?_
  refine tSR<|rA J J<|rN<|tS<|ATodo.cut (fun σ'=>∃ (c1 : Bool),Q_Key_j1 c1 = some r ∧ σ' = ⟨17,[(2,.bool c1)],[]⟩) ?_ ?_
  · refine tR<|rM J J<|ARun.qv (q_len_str J) J<|r_callp J (Q_in_c J) (CoL.refl _) J<|rM J J<|ARun.guard J J J (fun hc=>?_) (fun hc=>?_)
    · refine have h := iteT hc h; rM J J<|rY J J J<|bndE h fun v2 e1 h=>r_callp J (strings_Trim_c e1) (CoL.refl _) J<|rY J J J<|ARun.qv (q_seq J J) J<|rT J J J<|rM J J<|ARun.guard_dt J J J (fun hc=>?_) (fun hc=>?_)
      · exact have h := iteT hc h; rM J J<|rY J J J<|bndE h fun c3 e2 h=>ARun.qv (t_index_str J J e2) J<|rY J J J<|r_callp J (strings_IndexByte_c J) (CoL.refl _) J<|rY J J J<|ARun.qv (q_geq J J) J<|rT J J J<|rA J J<|rN<|ATodo.stop<|ImpX.lq [] ⟨decide ((0 : Int) ≤ (indexByteI ([97,98,99,100,101,102,103,104,105,106,107,108,109,110,111,112,113,114,115,116,117,118,119,120,121,122] : Str) (c3.toNat : Int))),h,J⟩ J J
      · exact have h := iteF hc h; rG J J J J<|rG J J J J<|rG J J J J<|rE J J J<|rA J J<|rN<|ATodo.stop<|ImpX.lq [] ⟨false,h,J⟩ J J
    · exact have h := iteFb hc h; rG J J J J<|rG J J J J<|rE J J J<|rM J J<|rG J J J J<|rG J J J J<|rG J J J J<|rG J J J J<|rE J J J<|rA J J<|rN<|ATodo.stop<|ImpX.lq [] ⟨false,h,J⟩ J J
  · rintro σ' ⟨c1, h, rfl⟩
    unfold Q_Key_j1 at h
    refine ATodo.ret<|?_
    obtain rfl := Option.some.inj h
    exact ImpX.here ⟨_,.cons (.tmp _ _ J) .nil,J⟩

theorem Q_SignalsFault_c {p0x0 : List Signal} {r : Int} (h : Q_SignalsFault p0x0 = some r) : Pu Tryz.prog 15 [lE2 p0x0] (I r) := by
  unfold Q_SignalsFault at h
  refine ACall.bodyN Tryz.func15 J Tryz.ntmps15 Tryz.results15 J J ?_
  refine tSR<|rA J J<|rN<|tS<|tSR<|rM J J<|ARun.qv (t_len J) J<|ARun.qv (q_gtr J J) J<|rN<|ATodo.cond_d J (fun hc=>?_) (fun hc=>?_)
  · refine have h := iteT hc h; tSR<|rA J J<|rN<|ATodo.ret<|?_
    obtain rfl := Option.some.inj h
    exact ImpX.here ⟨_,.cons (.tmp _ _ J) .nil,J⟩
  · refine have h := iteF hc h; tK<|tS<|tSR<|rM J J<|ARun.qv (t_len J) J<|rM J J<|rN<|ATodo.block<|ATodo.loopI (fun x : Int=>Q_SignalsFault_b1 p0x0 x) (fun x σ'=>σ' = ⟨97,[(0,lE2 p0x0),(10,lE2 p0x0),(11,I (p0x0.length : Int)),(12,I x)],[]⟩) h ?_ ?_
    · exact ImpX.lq [] J J J
    · intro n2 z1 σ' J1 hmk h hJ1 hA1
      obtain rfl := hmk
      replace h : Q_SignalsFault_b1 p0x0 n2 = some z1 := h
      unfold Q_SignalsFault_b1 at h
      refine tSR<|ARun.qv (q_lss J J) J<|rN<|tS<|ATodo.cond_d J (fun hc=>?_) (fun hc=>?_)
      · refine have h := iteT hc h; tK<|tS<|ATodo.block<|tSR<|rM J J<|bndE h fun v3 e1 h=>ARun.qv (t_index J J J e1 J J) J<|ARun.qv (q_load_rptr_agg J J J) J<|n_alloc J J J J fun b4=>rA J J<|n_store_ptr J J J J .p0 J J<|rN<|tS<|ATodo.regionM (id := 6) (A := [0,1,3,0,8,24,7,127]) 8 mixed J (by kernel_rfl) (by kernel_rfl)<|AM.qv (n_field_ptr J J) J<|AM.qv (q_load_ptr J J .p0 J) J<|AM.qv (q_geq J J) J<|AM.qv (n_field_ptr J J) J<|AM.qv (q_load_ptr J J .p0 J) J<|AM.qv (q_eql J J) J<|AM.qv (q_assign J) J<|AM.qv (q_assign J) J<|AM.nil<|rN<|ATodo.block<|tSR<|rF J J J<|rL J J .p0 J J<|r_callp J (Q_MomentFault_c J) (CoL.refl _) J<|ARun.qv (q_neq J J) J<|rA J J<|rN<|ATodo.cond_d J (fun hc=>?_) (fun hc=>?_)
        · refine have h := iteT hc h; tSR<|rA J J<|rN<|ATodo.ret<|have h := outL h hA1; ?_
          obtain rfl := Option.some.inj h
          exact ImpX.here ⟨_,.cons (.tmp _ _ J) .nil,J⟩
        · refine have h := iteF hc h; tS<|ATodo.cut (fun σ'=>∃ (c5 : Bool),Q_SignalsFault_j1 p0x0 n2 v3 c5 = some z1 ∧ σ' = ⟨97,[(0,lE2 p0x0),(3,I n2),(4,.ptr b4 0),(5,.bool (decide ((3 : Int) ≤ v3.Kind))),(6,.bool (decide (v3.Kind = (4 : Int)))),(10,lE2 p0x0),(11,I (p0x0.length : Int)),(12,I n2),(28,.bool c5)],[(b4,.cells (cE0 v3))]⟩) ?_ ?_
          · refine tR<|rF J J J<|rL J J .p0 J J<|bndE h fun v6 e2 h=>r_callp J (Q_Key_c e2) (CoL.refl _) J<|ARun.qv (q_not J) J<|rM J J<|ARun.guard J J J (fun hc=>?_) (fun hc=>?_)
            · exact have h := iteFb hc h; rF J J J<|rY J J J<|rL J J .p0 J J<|rY J J J<|bndE h fun v7 e3 h=>r_callp J (Q_Key_c e3) (CoL.refl _) J<|rY J J J<|ARun.qv (q_not J) J<|rE J J J<|rA J J<|rN<|ATodo.stop<|ImpX.lq [0] ⟨!v7,h,J⟩ J J
            · exact have h := iteT hc h; rG J J J J<|rG J J J J<|rG J J J J<|rT J J J<|rA J J<|rN<|ATodo.stop<|ImpX.lq [0] ⟨true,h,J⟩ J J
          · rintro σ' ⟨c5, h, rfl⟩
            unfold Q_SignalsFault_j1 at h
            refine ATodo.cond J (fun hc=>?_) (fun hc=>?_)
            · refine have h := iteT hc h; tSR<|rA J J<|rN<|ATodo.ret<|have h := outL h hA1; ?_
              obtain rfl := Option.some.inj h
              exact ImpX.here ⟨_,.cons (.tmp _ _ J) .nil,J⟩
            · refine have h := iteFb hc h; tSR<|rF J J J<|rL J J .p0 J J<|r_callp J (Q_in_c J) (CoL.refl _) J<|ARun.qv (q_not J) J<|rA J J<|rN<|ATodo.cond J (fun hc=>?_) (fun hc=>?_)
              · refine have h := iteT hc h; tSR<|rA J J<|rN<|ATodo.ret<|have h := outL h hA1; ?_
                obtain rfl := Option.some.inj h
                exact ImpX.here ⟨_,.cons (.tmp _ _ J) .nil,J⟩
              · refine have h := iteFb hc h; tS<|ATodo.cut (fun σ'=>∃ (c8 : Bool),Q_SignalsFault_j2 p0x0 n2 v3 c8 = some z1 ∧ σ' = ⟨97,[(0,lE2 p0x0),(3,I n2),(4,.ptr b4 0),(5,.bool (decide ((3 : Int) ≤ v3.Kind))),(6,.bool (decide (v3.Kind = (4 : Int)))),(10,lE2 p0x0),(11,I (p0x0.length : Int)),(12,I n2),(44,.bool c8)],[(b4,.cells (cE0 v3))]⟩) ?_ ?_
                · refine tR<|rM J J<|rM J J<|ARun.guard_dt J J J (fun hc=>?_) (fun hc=>?_)
                  · exact have h := iteT hc h; rF J J J<|rY J J J<|rL J J .p0 J J<|rY J J J<|bndE h fun v9 e4 h=>r_callp J (Q_Key_c e4) (CoL.refl _) J<|rY J J J<|ARun.qv (q_not J) J<|rT J J J<|rA J J<|rN<|ATodo.stop<|ImpX.lq [0] ⟨!v9,h,J⟩ J J
                  · exact have h := iteF hc h; rG J J J J<|rG J J J J<|rG J J J J<|rE J J J<|rA J J<|rN<|ATodo.stop<|ImpX.lq [0] ⟨false,h,J⟩ J J
                · rintro σ' ⟨c8, h, rfl⟩
                  unfold Q_SignalsFault_j2 at h
                  refine ATodo.cond J (fun hc=>?_) (fun hc=>?_)
                  · refine have h := iteT hc h; tSR<|rA J J<|rN<|ATodo.ret<|have h := outL h hA1; ?_
                    obtain rfl := Option.some.inj h
                    exact ImpX.here ⟨_,.cons (.tmp _ _ J) .nil,J⟩
                  · refine have h := iteFb hc h; tS<|ATodo.cut (fun σ'=>∃ (c10 : Bool),Q_SignalsFault_j3 p0x0 n2 v3 c10 = some z1 ∧ σ' = ⟨97,[(0,lE2 p0x0),(3,I n2),(4,.ptr b4 0),(6,.bool (decide (v3.Kind = (4 : Int)))),(10,lE2 p0x0),(11,I (p0x0.length : Int)),(12,I n2),(52,.bool c10)],[(b4,.cells (cE0 v3))]⟩) ?_ ?_
                    · refine tR<|rM J J<|ARun.qv (q_not_d J) J<|rM J J<|ARun.guard_dt J J J (fun hc=>?_) (fun hc=>?_)
                      · rw [andTd hc] at h
                        exact rF J J J<|rY J J J<|rL J J .p0 J J<|rY J J J<|ARun.qv (q_sne J J) J<|rT J J J<|rA J J<|rN<|ATodo.stop<|ImpX.lq [0] ⟨decide (v3.By ≠ ([] : Str)),h,J⟩ J J
                      · rw [andFd hc] at h
                        exact rG J J J J<|rG J J J J<|rE J J J<|rA J J<|rN<|ATodo.stop<|ImpX.lq [0] ⟨false,h,J⟩ J J
                    · rintro σ' ⟨c10, h, rfl⟩
                      unfold Q_SignalsFault_j3 at h
                      refine ATodo.cond J (fun hc=>?_) (fun hc=>?_)
                      · refine have h := iteT hc h; tSR<|rA J J<|rN<|ATodo.ret<|have h := outL h hA1; ?_
                        obtain rfl := Option.some.inj h
                        exact ImpX.here ⟨_,.cons (.tmp _ _ J) .nil,J⟩
                      · refine have h := iteFb hc h; tS<|ATodo.cut (fun σ'=>∃ (c11 : Bool),Q_SignalsFault_j4 p0x0 n2 v3 c11 = some z1 ∧ σ' = ⟨97,[(0,lE2 p0x0),(3,I n2),(4,.ptr b4 0),(6,.bool (decide (v3.Kind = (4 : Int)))),(10,lE2 p0x0),(11,I (p0x0.length : Int)),(12,I n2),(60,.bool c11)],[(b4,.cells (cE0 v3))]⟩) ?_ ?_
                        · refine tR<|rM J J<|rM J J<|ARun.guard_dt J J J (fun hc=>?_) (fun hc=>?_)
                          · rw [andTd hc] at h
                            exact rF J J J<|rY J J J<|rL J J .p0 J J<|rY J J J<|rF J J J<|rY J J J<|rL J J .p0 J J<|rY J J J<|ARun.qv (q_addw J J) J<|rY J J J<|rF J J J<|rY J J J<|rL J J .p0 J J<|rY J J J<|ARun.qv (q_addw J J) J<|rY J J J<|ARun.qv (q_min J J) J<|rY J J J<|r_callp J (Q_in_c J) (CoL.refl _) J<|rY J J J<|ARun.qv (q_not J) J<|rT J J J<|rA J J<|rN<|ATodo.stop<|ImpX.lq [0] ⟨!(Q_in v3.Until (w64 (v3.At + (1 : Int))) (min (w64 (v3.At + (2592000000 : Int))) (345686400000 : Int))),h,J⟩ J J
                          · rw [andFd hc] at h
                            exact rG J J J J<|rG J J J J<|rG J J J J<|rG J J J J<|rG J J J J<|rG J J J J<|rG J J J J<|rG J J J J<|rG J J J J<|rG J J J J<|rE J J J<|rA J J<|rN<|ATodo.stop<|ImpX.lq [0] ⟨false,h,J⟩ J J
                        · rintro σ' ⟨c11, h, rfl⟩
                          unfold Q_SignalsFault_j4 at h
                          refine ATodo.cond J (fun hc=>?_) (fun hc=>?_)
                          · refine have h := iteT hc h; tSR<|rA J J<|rN<|ATodo.ret<|have h := outL h hA1; ?_
                            obtain rfl := Option.some.inj h
                            exact ImpX.here ⟨_,.cons (.tmp _ _ J) .nil,J⟩
                          · refine have h := iteFb hc h; tS<|ATodo.cut (fun σ'=>∃ (c12 : Bool),Q_SignalsFault_j5 p0x0 n2 v3 c12 = some z1 ∧ σ' = ⟨97,[(0,lE2 p0x0),(3,I n2),(4,.ptr b4 0),(10,lE2 p0x0),(11,I (p0x0.length : Int)),(12,I n2),(75,.bool c12)],[(b4,.cells (cE0 v3))]⟩) ?_ ?_
                            · refine tR<|rM J J<|ARun.qv (q_not_d J) J<|rM J J<|ARun.guard_dt J J J (fun hc=>?_) (fun hc=>?_)
                              · rw [andTd hc] at h
                                exact rF J J J<|rY J J J<|rL J J .p0 J J<|rY J J J<|ARun.qv (q_neq J J) J<|rT J J J<|rA J J<|rN<|ATodo.stop<|ImpX.lq [0] ⟨decide (v3.Until ≠ (0 : Int)),h,J⟩ J J
                              · rw [andFd hc] at h
                                exact rG J J J J<|rG J J J J<|rE J J J<|rA J J<|rN<|ATodo.stop<|ImpX.lq [0] ⟨false,h,J⟩ J J
                            · rintro σ' ⟨c12, h, rfl⟩
                              unfold Q_SignalsFault_j5 at h
                              refine ATodo.cond J (fun hc=>?_) (fun hc=>?_)
                              · refine have h := iteT hc h; tSR<|rA J J<|rN<|ATodo.ret<|have h := outL h hA1; ?_
                                obtain rfl := Option.some.inj h
                                exact ImpX.here ⟨_,.cons (.tmp _ _ J) .nil,J⟩
                              · refine have h := iteFb hc h; tS<|ATodo.cut (fun σ'=>∃ (c13 : Bool),Q_SignalsFault_j6 n2 c13 = some z1 ∧ σ' = ⟨97,[(0,lE2 p0x0),(10,lE2 p0x0),(11,I (p0x0.length : Int)),(12,I n2),(83,.bool c13)],[]⟩) ?_ ?_
                                · refine ATodo.regionM (id := 21) (A := [0,1,3,7,7,23,63,127,7,511,1023,2047,4095]) 13 mixed J (by kernel_rfl) (by kernel_rfl)<|AM.qv (q_move J) J<|AM.qv (q_gtr J J) J<|AM.qv (q_move J) J<|AM.guard_dt J J J (fun hc=>?_) (fun hc=>?_)
                                  · exact have h := iteT hc h; AM.qv (q_move J) J<|AM.guard_yes J J J<|AM.qv (q_move J) J<|AM.guard_yes J J J<|AM.qv (q_subw J J) J<|AM.guard_yes J J J<|bndE h fun v14 e5 h=>AM.qv (t_index J J J e5 J J) J<|AM.guard_yes J J J<|AM.qv (q_load_rptr_agg J J J) J<|AM.guard_yes J J J<|AM.qv (q_load_ptr_all J J .p0 J) J<|AM.guard_yes J J J<|bndE h fun v15 e6 h=>AM.callp J (Q_SignalOrder_c e6) (CoL.refl _) J<|AM.guard_yes J J J<|AM.qv (q_geq J J) J<|AM.qv (q_pick_t J J) J<|AM.qv (q_assign J) J<|AM.nil<|rN<|ATodo.stop<|ImpX.lq [] ⟨decide ((0 : Int) ≤ v15),h,J⟩ J J
                                  · exact have h := iteF hc h; AM.guard_no J J J J<|AM.guard_no J J J J<|AM.guard_no J J J J<|AM.guard_no J J J J<|AM.guard_no J J J J<|AM.guard_no J J J J<|AM.guard_no J J J J<|AM.qv (q_pick_f J J) J<|AM.qv (q_assign J) J<|AM.nil<|rN<|ATodo.stop<|ImpX.lq [] ⟨false,h,J⟩ J J
                                · rintro σ' ⟨c13, h, rfl⟩
                                  unfold Q_SignalsFault_j6 at h
                                  refine ATodo.cond J (fun hc=>?_) (fun hc=>?_)
                                  · refine have h := iteT hc h; tSR<|rA J J<|rN<|ATodo.ret<|have h := outL h hA1; ?_
                                    obtain rfl := Option.some.inj h
                                    exact ImpX.here ⟨_,.cons (.tmp _ _ J) .nil,J⟩
                                  · refine have h := iteFb hc h; tK<|ATodo.blk<|ATodo.blk<|tR<|ARun.qv (q_addw J J) J<|rM J J<|rN<|ATodo.stop<|?_
                                    obtain rfl := Option.some.inj h
                                    exact hJ1 _ _ J<|ImpX.lq [] J J J
      · refine have h := iteF hc h; ATodo.exit J<|have h := outL h hA1; tSR<|rA J J<|rN<|ATodo.ret<|?_
        obtain rfl := Option.some.inj h
        exact ImpX.here ⟨_,.cons (.tmp _ _ J) .nil,J⟩

theorem Q_KeyFault_c {p0x0 : Str} {r : Int} (h : Q_KeyFault p0x0 = some r) : Pu Tryz.prog 31 [.str p0x0] (I r) := by
  unfold Q_KeyFault at h
  refine ACall.bodyN Tryz.func31 J Tryz.ntmps31 Tryz.results31 J J ?_
  refine tSR<|rA J J<|rN<|tS<|tSR<|rM J J<|bndE h fun v1 e1 h=>r_callp J (Q_Key_c e1) (CoL.refl _) J<|ARun.qv (q_not J) J<|rN<|ATodo.cond J (fun hc=>?_) (fun hc=>?_)
  · refine have h := iteT hc h; tSR<|rA J J<|rN<|ATodo.ret<|?_
    obtain rfl := Option.some.inj h
    exact ImpX.here ⟨_,.cons (.tmp _ _ J) .nil,J⟩
  · refine have h := iteFb hc h; tK<|tSR<|rA J J<|rN<|ATodo.ret<|?_
    obtain rfl := Option.some.inj h
    exact ImpX.here ⟨_,.cons (.tmp _ _ J) .nil,J⟩

theorem cmp_Or_Errno_c [GI : GTab] {p0x0 : List Int} {r : Int} (h : cmp_Or_Errno p0x0 = some r) : Pu Tryz.prog 18 [lE0 p0x0] (I r) := by
  unfold cmp_Or_Errno at h
  refine ACall.bodyN Tryz.func18 J Tryz.ntmps18 Tryz.results18 J J ?_
  refine tSR<|rA J J<|rN<|tSR<|rA J J<|rN<|tS<|tSR<|rM J J<|ARun.qv (t_len J) J<|rM J J<|rN<|ATodo.block<|ATodo.loopI (fun x : Int=>cmp_Or_Errno_b1 p0x0 x) (fun x σ'=>σ' = ⟨18,[(3,I (0 : Int)),(6,lE0 p0x0),(7,I (p0x0.length : Int)),(8,I x)],[]⟩) h ?_ ?_
  · exact ImpX.lq [] J J J
  · intro n2 z1 σ' J1 hmk h hJ1 hA1
    obtain rfl := hmk
    replace h : cmp_Or_Errno_b1 p0x0 n2 = some z1 := h
    unfold cmp_Or_Errno_b1 at h
    refine tSR<|ARun.qv (q_lss J J) J<|rN<|tS<|ATodo.cond_d J (fun hc=>?_) (fun hc=>?_)
    · refine have h := iteT hc h; tK<|tS<|ATodo.block<|tSR<|bndE h fun v3 e1 h=>ARun.qv (t_index J J J e1 J J) J<|ARun.qv (q_load_rptr J J J) J<|rA J J<|rN<|tSR<|rM J J<|rM J J<|ARun.qv (q_neq J J) J<|rN<|ATodo.cond_d J (fun hc=>?_) (fun hc=>?_)
      · refine have h := iteT hc h; tSR<|rM J J<|rA J J<|rN<|ATodo.ret<|have h := outL h hA1; ?_
        obtain rfl := Option.some.inj h
        exact ImpX.here ⟨_,.cons (.tmp _ _ J) .nil,J⟩
      · refine have h := iteF hc h; tK<|ATodo.blk<|tR<|ARun.qv (q_addw J J) J<|rM J J<|rN<|ATodo.stop<|?_
        obtain rfl := Option.some.inj h
        exact hJ1 _ _ J<|ImpX.lq [] J J J
    · refine have h := iteF hc h; ATodo.exit J<|have h := outL h hA1; tSR<|rM J J<|rA J J<|rN<|ATodo.ret<|?_
      obtain rfl := Option.some.inj h
      exact ImpX.here ⟨_,.cons (.tmp _ _ J) .nil,J⟩

theorem base_Out_c [GI : GTab] {p0x0 : Int} {p1x0 : Int} {p2x0 : Int} {r : Bool} (h : base_Out p0x0 p1x0 p2x0 = r) : Pu Tryz.prog 98 [I p0x0,I p1x0,I p2x0] (.bool r) := by
  unfold base_Out at h
  refine ACall.bodyN Tryz.func98 J Tryz.ntmps98 Tryz.results98 J J ?_
  refine tSR<|rA J J<|rN<|tS<|ATodo.cut (fun σ'=>∃ (c1 : Bool),base_Out_j1 c1 = r ∧ σ' = ⟨15,[(6,.bool c1)],[]⟩) ?_ ?_
  · refine tR<|rM J J<|rM J J<|ARun.qv (q_lss J J) J<|rM J J<|ARun.guard_df J J J (fun hc=>?_) (fun hc=>?_)
    · rw [orFd hc] at h
      exact rM J J<|rY J J J<|rM J J<|rY J J J<|ARun.qv (q_gtr J J) J<|rE J J J<|rA J J<|rN<|ATodo.stop<|ImpX.lq [] ⟨decide (p2x0 < p0x0),h,J⟩ J J
    · rw [orTd hc] at h
      exact rG J J J J<|rG J J J J<|rT J J J<|rA J J<|rN<|ATodo.stop<|ImpX.lq [] ⟨true,h,J⟩ J J
  · rintro σ' ⟨c1, h, rfl⟩
    unfold base_Out_j1 at h
    refine ATodo.ret<|?_
    obtain rfl := h
    exact ImpX.here ⟨_,.cons (.tmp _ _ J) .nil,J⟩

theorem base_Moment_c [GI : GTab] {p0x0 : Int} {r : Bool} (h : base_Moment p0x0 = r) : Pu Tryz.prog 89 [I p0x0] (.bool r) := by
  unfold base_Moment at h
  refine ACall.bodyN Tryz.func89 J Tryz.ntmps89 Tryz.results89 J J ?_
  refine tSR<|rA J J<|rN<|tSR<|rM J J<|r_callp J (base_Out_c J) (CoL.refl _) J<|ARun.qv (q_not J) J<|rA J J<|rN<|ATodo.ret<|?_
  obtain rfl := h
  exact ImpX.here ⟨_,.cons (.tmp _ _ J) .nil,J⟩

theorem base_Key_c [GI : GTab] {p0x0 : Str} {r : Bool} (h : base_Key p0x0 = some r) : Pu Tryz.prog 90 [.str p0x0] (.bool r) := by
  unfold base_Key at h
  refine ACall.bodyN Tryz.func90 J Tryz.ntmps90 Tryz.results90 J J ?_
  refine tSR<|rA J J<|rN<|tS<|tS<|ATodo.cut (fun σ'=>∃ (c1 : Bool),base_Key_j1 p0x0 c1 = some r ∧ σ' = ⟨54,[(0,.str p0x0),(21,.bool c1)],[]⟩) ?_ ?_
  · refine tR<|rM J J<|ARun.qv (q_seq J J) J<|rM J J<|ARun.guard_df J J J (fun hc=>?_) (fun hc=>?_)
    · refine have h := iteF hc h; rM J J<|rY J J J<|ARun.qv (q_len_str J) J<|rY J J J<|ARun.qv (q_gtr J J) J<|rE J J J<|rM J J<|ARun.guard_df J J J (fun hc=>?_) (fun hc=>?_)
      · refine have h := iteF hc h; rM J J<|rY J J J<|bndE h fun c2 e1 h=>ARun.qv (t_index_str J J e1) J<|rY J J J<|ARun.qv (q_lss J J) J<|rE J J J<|rM J J<|ARun.guard_df J J J (fun hc=>?_) (fun hc=>?_)
        · exact have h := iteF hc h; rM J J<|rY J J J<|bndE h fun c3 e2 h=>ARun.qv (t_index_str J J e2) J<|rY J J J<|ARun.qv (q_gtr J J) J<|rE J J J<|rN<|ATodo.stop<|ImpX.lq [] ⟨decide ((122 : Int) < (c3.toNat : Int)),h,J⟩ J J
        · exact have h := iteT hc h; rG J J J J<|rG J J J J<|rT J J J<|rN<|ATodo.stop<|ImpX.lq [] ⟨true,h,J⟩ J J
      · exact have h := iteT hc h; rG J J J J<|rG J J J J<|rT J J J<|rM J J<|rG J J J J<|rG J J J J<|rG J J J J<|rT J J J<|rN<|ATodo.stop<|ImpX.lq [] ⟨true,h,J⟩ J J
    · exact have h := iteT hc h; rG J J J J<|rG J J J J<|rT J J J<|rM J J<|rG J J J J<|rG J J J J<|rG J J J J<|rT J J J<|rM J J<|rG J J J J<|rG J J J J<|rG J J J J<|rT J J J<|rN<|ATodo.stop<|ImpX.lq [] ⟨true,h,J⟩ J J
  · rintro σ' ⟨c1, h, rfl⟩
    unfold base_Key_j1 at h
    refine ATodo.cond J (fun hc=>?_) (fun hc=>?_)
    · refine have h := iteT hc h; tSR<|rA J J<|rN<|ATodo.ret<|?_
      obtain rfl := Option.some.inj h
      exact ImpX.here ⟨_,.cons (.tmp _ _ J) .nil,J⟩
    · refine have h := iteFb hc h; tK<|tS<|tSR<|rM J J<|ARun.qv (q_len_str J) J<|rM J J<|rN<|ATodo.block<|ATodo.loopI (fun x : Int=>base_Key_b1 p0x0 x) (fun x σ'=>σ' = ⟨54,[(0,.str p0x0),(23,I (p0x0.length : Int)),(24,I x)],[]⟩) h ?_ ?_
      · exact ImpX.lq [] J J J
      · intro n5 z1 σ' J1 hmk h hJ1 hA1
        obtain rfl := hmk
        replace h : base_Key_b1 p0x0 n5 = some z1 := h
        unfold base_Key_b1 at h
        refine tSR<|ARun.qv (q_lss J J) J<|rN<|tS<|ATodo.cond_d J (fun hc=>?_) (fun hc=>?_)
        · refine have h := iteT hc h; tK<|tS<|ATodo.block<|tSR<|rM J J<|rA J J<|rN<|tSR<|rM J J<|rM J J<|bndE h fun c6 e3 h=>ARun.qv (t_index_str J J e3) J<|rA J J<|rN<|tS<|ATodo.cut (fun σ'=>∃ (c7 : Bool),base_Key_j2 n5 c7 = some z1 ∧ σ' = ⟨54,[(0,.str p0x0),(23,I (p0x0.length : Int)),(24,I n5),(52,.bool c7)],[]⟩) ?_ ?_
          · refine tR<|rM J J<|ARun.qv (q_geq J J) J<|rM J J<|ARun.guard_dt J J J (fun hc=>?_) (fun hc=>?_)
            · rw [if_pos hc] at h
              refine rM J J<|rY J J J<|ARun.qv (q_leq J J) J<|rT J J J<|rM J J<|ARun.guard_df J J J (fun hc=>?_) (fun hc=>?_)
              · rw [if_neg hc] at h
                refine rM J J<|rY J J J<|ARun.qv (q_geq J J) J<|rY J J J<|rM J J<|ARun.guard_dt J J J (fun hc=>?_) (fun hc=>?_)
                · rw [if_pos hc] at h
                  refine rM J J<|rY J J J<|ARun.qv (q_leq J J) J<|rY J J J<|rT J J J<|rE J J J<|rM J J<|ARun.guard_df J J J (fun hc=>?_) (fun hc=>?_)
                  · rw [if_neg hc] at h
                    refine rM J J<|rY J J J<|ARun.qv (q_eql J J) J<|rE J J J<|rM J J<|ARun.guard_df J J J (fun hc=>?_) (fun hc=>?_)
                    · rw [if_neg hc] at h
                      exact rM J J<|rY J J J<|ARun.qv (q_eql J J) J<|rE J J J<|ARun.qv (q_not_d J) J<|rN<|ATodo.stop<|ImpX.lq [] ⟨decide (¬ ((c6.toNat : Int) = (95 : Int))),h,J⟩ J J
                    · rw [if_pos hc] at h
                      exact rG J J J J<|rT J J J<|ARun.qv (q_not J) J<|rN<|ATodo.stop<|ImpX.lq [] ⟨!true,h,J⟩ J J
                  · rw [if_pos hc] at h
                    exact rG J J J J<|rT J J J<|rM J J<|rG J J J J<|rG J J J J<|rT J J J<|ARun.qv (q_not J) J<|rN<|ATodo.stop<|ImpX.lq [] ⟨!true,h,J⟩ J J
                · rw [if_neg hc] at h
                  refine rG J J J J<|rY J J J<|rE J J J<|rE J J J<|rM J J<|rY J J J<|rM J J<|rY J J J<|ARun.qv (q_eql J J) J<|rE J J J<|rM J J<|ARun.guard_df J J J (fun hc=>?_) (fun hc=>?_)
                  · rw [if_neg hc] at h
                    exact rM J J<|rY J J J<|ARun.qv (q_eql J J) J<|rE J J J<|ARun.qv (q_not_d J) J<|rN<|ATodo.stop<|ImpX.lq [] ⟨decide (¬ ((c6.toNat : Int) = (95 : Int))),h,J⟩ J J
                  · rw [if_pos hc] at h
                    exact rG J J J J<|rT J J J<|ARun.qv (q_not J) J<|rN<|ATodo.stop<|ImpX.lq [] ⟨!true,h,J⟩ J J
              · rw [if_pos hc] at h
                exact rG J J J J<|rG J J J J<|ARun.guard_und J J J<|ARun.guard_und J J J<|rG J J J J<|rT J J J<|rM J J<|rG J J J J<|rG J J J J<|rT J J J<|rM J J<|rG J J J J<|rG J J J J<|rT J J J<|ARun.qv (q_not J) J<|rN<|ATodo.stop<|ImpX.lq [] ⟨!true,h,J⟩ J J
            · rw [if_neg hc] at h
              refine rG J J J J<|rE J J J<|rM J J<|rY J J J<|rM J J<|rY J J J<|ARun.qv (q_geq J J) J<|rY J J J<|rM J J<|ARun.guard_dt J J J (fun hc=>?_) (fun hc=>?_)
              · rw [if_pos hc] at h
                refine rM J J<|rY J J J<|ARun.qv (q_leq J J) J<|rY J J J<|rT J J J<|rE J J J<|rM J J<|ARun.guard_df J J J (fun hc=>?_) (fun hc=>?_)
                · rw [if_neg hc] at h
                  refine rM J J<|rY J J J<|ARun.qv (q_eql J J) J<|rE J J J<|rM J J<|ARun.guard_df J J J (fun hc=>?_) (fun hc=>?_)
                  · rw [if_neg hc] at h
                    exact rM J J<|rY J J J<|ARun.qv (q_eql J J) J<|rE J J J<|ARun.qv (q_not_d J) J<|rN<|ATodo.stop<|ImpX.lq [] ⟨decide (¬ ((c6.toNat : Int) = (95 : Int))),h,J⟩ J J
                  · rw [if_pos hc] at h
                    exact rG J J J J<|rT J J J<|ARun.qv (q_not J) J<|rN<|ATodo.stop<|ImpX.lq [] ⟨!true,h,J⟩ J J
                · rw [if_pos hc] at h
                  exact rG J J J J<|rT J J J<|rM J J<|rG J J J J<|rG J J J J<|rT J J J<|ARun.qv (q_not J) J<|rN<|ATodo.stop<|ImpX.lq [] ⟨!true,h,J⟩ J J
              · rw [if_neg hc] at h
                refine rG J J J J<|rY J J J<|rE J J J<|rE J J J<|rM J J<|rY J J J<|rM J J<|rY J J J<|ARun.qv (q_eql J J) J<|rE J J J<|rM J J<|ARun.guard_df J J J (fun hc=>?_) (fun hc=>?_)
                · rw [if_neg hc] at h
                  exact rM J J<|rY J J J<|ARun.qv (q_eql J J) J<|rE J J J<|ARun.qv (q_not_d J) J<|rN<|ATodo.stop<|ImpX.lq [] ⟨decide (¬ ((c6.toNat : Int) = (95 : Int))),h,J⟩ J J
                · rw [if_pos hc] at h
                  exact rG J J J J<|rT J J J<|ARun.qv (q_not J) J<|rN<|ATodo.stop<|ImpX.lq [] ⟨!true,h,J⟩ J J
          · rintro σ' ⟨c7, h, rfl⟩
            unfold base_Key_j2 at h
            refine ATodo.cond J (fun hc=>?_) (fun hc=>?_)
            · refine have h := iteT hc h; tSR<|rA J J<|rN<|ATodo.ret<|have h := outL h hA1; ?_
              obtain rfl := Option.some.inj h
              exact ImpX.here ⟨_,.cons (.tmp _ _ J) .nil,J⟩
            · refine have h := iteFb hc h; tK<|ATodo.blk<|tR<|ARun.qv (q_addw J J) J<|rM J J<|rN<|ATodo.stop<|?_
              obtain rfl := Option.some.inj h
              exact hJ1 _ _ J<|ImpX.lq [] J J J
        · refine have h := iteF hc h; ATodo.exit J<|have h := outL h hA1; tSR<|rA J J<|rN<|ATodo.ret<|?_
          obtain rfl := Option.some.inj h
          exact ImpX.here ⟨_,.cons (.tmp _ _ J) .nil,J⟩

theorem alarm_signalFault_c [GI : GTab] {p0x0 : Signal} {r : Int} (h : alarm_signalFault p0x0 = some r) : Pu Tryz.prog 78 [Signal.av p0x0] (I r) := by
  unfold alarm_signalFault at h
  refine ACall.bodyN Tryz.func78 J Tryz.ntmps78 Tryz.results78 J J ?_
  refine tSR<|n_box J J J J fun b1=>rA J J<|rN<|tSR<|rF J J J<|rL J J .p0 J J<|ARun.qv (q_geq J J) J<|rA J J<|rN<|tSR<|rF J J J<|rL J J .p0 J J<|ARun.qv (q_eql J J) J<|rA J J<|rN<|tS<|ATodo.block<|tSR<|rF J J J<|rL J J .p0 J J<|r_callp J (base_Moment_c J) (CoL.refl _) J<|ARun.qv (q_not J) J<|rA J J<|rN<|ATodo.cond J (fun hc=>?_) (fun hc=>?_)
  · refine have h := iteT hc h; tSR<|rA J J<|rN<|ATodo.ret<|?_
    obtain rfl := Option.some.inj h
    exact ImpX.here ⟨_,.cons (.tmp _ _ J) .nil,J⟩
  · refine have h := iteFb hc h; tS<|ATodo.cut (fun σ'=>∃ (c2 : Bool),alarm_signalFault_j1 p0x0 c2 = some r ∧ σ' = ⟨73,[(1,.ptr b1 0),(3,.bool (decide ((3 : Int) ≤ p0x0.Kind))),(4,.bool (decide (p0x0.Kind = (4 : Int)))),(16,.bool c2)],[(b1,.cells (cE0 p0x0))]⟩) ?_ ?_
    · refine tR<|rF J J J<|rL J J .p0 J J<|bndE h fun v3 e1 h=>r_callp J (base_Key_c e1) (CoL.refl _) J<|ARun.qv (q_not J) J<|rM J J<|ARun.guard J J J (fun hc=>?_) (fun hc=>?_)
      · exact have h := iteFb hc h; rF J J J<|rY J J J<|rL J J .p0 J J<|rY J J J<|bndE h fun v4 e2 h=>r_callp J (base_Key_c e2) (CoL.refl _) J<|rY J J J<|ARun.qv (q_not J) J<|rE J J J<|rA J J<|rN<|ATodo.stop<|ImpX.lq [0] ⟨!v4,h,J⟩ J J
      · exact have h := iteT hc h; rG J J J J<|rG J J J J<|rG J J J J<|rT J J J<|rA J J<|rN<|ATodo.stop<|ImpX.lq [0] ⟨true,h,J⟩ J J
    · rintro σ' ⟨c2, h, rfl⟩
      unfold alarm_signalFault_j1 at h
      refine ATodo.cond J (fun hc=>?_) (fun hc=>?_)
      · refine have h := iteT hc h; tSR<|rA J J<|rN<|ATodo.ret<|?_
        obtain rfl := Option.some.inj h
        exact ImpX.here ⟨_,.cons (.tmp _ _ J) .nil,J⟩
      · refine have h := iteFb hc h; tSR<|rF J J J<|rL J J .p0 J J<|r_callp J (base_Out_c J) (CoL.refl _) J<|rA J J<|rN<|ATodo.cond J (fun hc=>?_) (fun hc=>?_)
        · refine have h := iteT hc h; tSR<|rA J J<|rN<|ATodo.ret<|?_
          obtain rfl := Option.some.inj h
          exact ImpX.here ⟨_,.cons (.tmp _ _ J) .nil,J⟩
        · refine have h := iteFb hc h; tS<|ATodo.cut (fun σ'=>∃ (c5 : Bool),alarm_signalFault_j2 p0x0 c5 = some r ∧ σ' = ⟨73,[(1,.ptr b1 0),(3,.bool (decide ((3 : Int) ≤ p0x0.Kind))),(4,.bool (decide (p0x0.Kind = (4 : Int)))),(31,.bool c5)],[(b1,.cells (cE0 p0x0))]⟩) ?_ ?_
          · refine tR<|rM J J<|rM J J<|ARun.guard_dt J J J (fun hc=>?_) (fun hc=>?_)
            · exact have h := iteT hc h; rF J J J<|rY J J J<|rL J J .p0 J J<|rY J J J<|bndE h fun v6 e3 h=>r_callp J (base_Key_c e3) (CoL.refl _) J<|rY J J J<|ARun.qv (q_not J) J<|rT J J J<|rA J J<|rN<|ATodo.stop<|ImpX.lq [0] ⟨!v6,h,J⟩ J J
            · exact have h := iteF hc h; rG J J J J<|rG J J J J<|rG J J J J<|rE J J J<|rA J J<|rN<|ATodo.stop<|ImpX.lq [0] ⟨false,h,J⟩ J J
          · rintro σ' ⟨c5, h, rfl⟩
            unfold alarm_signalFault_j2 at h
            refine ATodo.cond J (fun hc=>?_) (fun hc=>?_)
            · refine have h := iteT hc h; tSR<|rA J J<|rN<|ATodo.ret<|?_
              obtain rfl := Option.some.inj h
              exact ImpX.here ⟨_,.cons (.tmp _ _ J) .nil,J⟩
            · refine have h := iteFb hc h; tS<|ATodo.cut (fun σ'=>∃ (c7 : Bool),alarm_signalFault_j3 p0x0 c7 = some r ∧ σ' = ⟨73,[(1,.ptr b1 0),(4,.bool (decide (p0x0.Kind = (4 : Int)))),(39,.bool c7)],[(b1,.cells (cE0 p0x0))]⟩) ?_ ?_
              · refine tR<|rM J J<|ARun.qv (q_not_d J) J<|rM J J<|ARun.guard_dt J J J (fun hc=>?_) (fun hc=>?_)
                · rw [andTd hc] at h
                  exact rF J J J<|rY J J J<|rL J J .p0 J J<|rY J J J<|ARun.qv (q_sne J J) J<|rT J J J<|rA J J<|rN<|ATodo.stop<|ImpX.lq [0] ⟨decide (p0x0.By ≠ ([] : Str)),h,J⟩ J J
                · rw [andFd hc] at h
                  exact rG J J J J<|rG J J J J<|rE J J J<|rA J J<|rN<|ATodo.stop<|ImpX.lq [0] ⟨false,h,J⟩ J J
              · rintro σ' ⟨c7, h, rfl⟩
                unfold alarm_signalFault_j3 at h
                refine ATodo.cond J (fun hc=>?_) (fun hc=>?_)
                · refine have h := iteT hc h; tSR<|rA J J<|rN<|ATodo.ret<|?_
                  obtain rfl := Option.some.inj h
                  exact ImpX.here ⟨_,.cons (.tmp _ _ J) .nil,J⟩
                · refine have h := iteFb hc h; tS<|ATodo.cut (fun σ'=>∃ (c8 : Bool),alarm_signalFault_j4 p0x0 c8 = some r ∧ σ' = ⟨73,[(1,.ptr b1 0),(4,.bool (decide (p0x0.Kind = (4 : Int)))),(47,.bool c8)],[(b1,.cells (cE0 p0x0))]⟩) ?_ ?_
                  · refine tR<|rM J J<|rM J J<|ARun.guard_dt J J J (fun hc=>?_) (fun hc=>?_)
                    · rw [andTd hc] at h
                      refine rF J J J<|rY J J J<|rL J J .p0 J J<|rY J J J<|rF J J J<|rY J J J<|rL J J .p0 J J<|rY J J J<|ARun.qv (q_addw J J) J<|rY J J J<|rF J J J<|rY J J J<|rL J J .p0 J J<|rY J J J<|ARun.qv (q_addw J J) J<|rY J J J<|r_callp J (base_Out_c J) (CoL.refl _) J<|rY J J J<|rM J J<|ARun.guard J J J (fun hc=>?_) (fun hc=>?_)
                      · rw [orFb hc] at h
                        exact rF J J J<|rY J J J<|rL J J .p0 J J<|rY J J J<|ARun.qv (q_gtr J J) J<|rY J J J<|rE J J J<|rT J J J<|rA J J<|rN<|ATodo.stop<|ImpX.lq [0] ⟨decide ((345686400000 : Int) < p0x0.Until),h,J⟩ J J
                      · rw [orTb hc] at h
                        exact rG J J J J<|rG J J J J<|rY J J J<|rT J J J<|rT J J J<|rA J J<|rN<|ATodo.stop<|ImpX.lq [0] ⟨true,h,J⟩ J J
                    · rw [andFd hc] at h
                      exact rG J J J J<|rG J J J J<|rG J J J J<|rG J J J J<|rG J J J J<|rG J J J J<|rG J J J J<|rG J J J J<|rG J J J J<|ARun.guard_und J J J<|ARun.guard_und J J J<|ARun.guard_und J J J<|rG J J J J<|rE J J J<|rA J J<|rN<|ATodo.stop<|ImpX.lq [0] ⟨false,h,J⟩ J J
                  · rintro σ' ⟨c8, h, rfl⟩
                    unfold alarm_signalFault_j4 at h
                    refine ATodo.cond J (fun hc=>?_) (fun hc=>?_)
                    · refine have h := iteT hc h; tSR<|rA J J<|rN<|ATodo.ret<|?_
                      obtain rfl := Option.some.inj h
                      exact ImpX.here ⟨_,.cons (.tmp _ _ J) .nil,J⟩
                    · refine have h := iteFb hc h; tS<|ATodo.cut (fun σ'=>∃ (c9 : Bool),alarm_signalFault_j5 c9 = some r ∧ σ' = ⟨73,[(65,.bool c9)],[]⟩) ?_ ?_
                      · refine tR<|rM J J<|ARun.qv (q_not_d J) J<|rM J J<|ARun.guard_dt J J J (fun hc=>?_) (fun hc=>?_)
                        · rw [andTd hc] at h
                          exact rF J J J<|rY J J J<|rL J J .p0 J J<|rY J J J<|ARun.qv (q_neq J J) J<|rT J J J<|rA J J<|rN<|ATodo.stop<|ImpX.lq [] ⟨decide (p0x0.Until ≠ (0 : Int)),h,J⟩ J J
                        · rw [andFd hc] at h
                          exact rG J J J J<|rG J J J J<|rE J J J<|rA J J<|rN<|ATodo.stop<|ImpX.lq [] ⟨false,h,J⟩ J J
                      · rintro σ' ⟨c9, h, rfl⟩
                        unfold alarm_signalFault_j5 at h
                        refine ATodo.cond J (fun hc=>?_) (fun hc=>?_)
                        · refine have h := iteT hc h; tSR<|rA J J<|rN<|ATodo.ret<|?_
                          obtain rfl := Option.some.inj h
                          exact ImpX.here ⟨_,.cons (.tmp _ _ J) .nil,J⟩
                        · refine have h := iteFb hc h; tK<|ATodo.blk<|tSR<|rA J J<|rN<|ATodo.ret<|?_
                          obtain rfl := Option.some.inj h
                          exact ImpX.here ⟨_,.cons (.tmp _ _ J) .nil,J⟩

theorem alarm_byMoment_c [GI : GTab] {p0x0 : Signal} {p1x0 : Signal} {r : Int} (h : alarm_byMoment p0x0 p1x0 = some r) : Pu Tryz.prog 79 [Signal.av p0x0,Signal.av p1x0] (I r) := by
  unfold alarm_byMoment at h
  refine ACall.bodyN Tryz.func79 J Tryz.ntmps79 Tryz.results79 J J ?_
  refine tSR<|n_box J J J J fun b1=>n_box J J J J fun b2=>rA J J<|rN<|tS<|ATodo.regionM (id := 1) (A := [0,1,0,4,15,0,32,0,128,511,0,1024,0,4096,16383,0,32768,0,131072,524287,1048575,2097151,4194303]) 23 mixed J (by kernel_rfl) (by kernel_rfl)<|AM.qv (n_field_ptr J J) J<|AM.qv (q_load_ptr J J .p1 J) J<|AM.qv (n_field_ptr J J) J<|AM.qv (q_load_ptr J J .p0 J) J<|AM.callp J (cmp_Compare_int_c J) (CoL.refl _) J<|AM.qv (n_field_ptr J J) J<|AM.qv (q_load_ptr J J .p1 J) J<|AM.qv (n_field_ptr J J) J<|AM.qv (q_load_ptr J J .p0 J) J<|AM.callp J (strings_Compare_c J) (CoL.refl _) J<|AM.qv (n_field_ptr J J) J<|AM.qv (q_load_ptr J J .p1 J) J<|AM.qv (n_field_ptr J J) J<|AM.qv (q_load_ptr J J .p0 J) J<|AM.callp J (strings_Compare_c J) (CoL.refl _) J<|AM.qv (n_field_ptr J J) J<|AM.qv (q_load_ptr J J .p1 J) J<|AM.qv (n_field_ptr J J) J<|AM.qv (q_load_ptr J J .p0 J) J<|AM.callp J (cmp_Compare_int_c J) (CoL.refl _) J<|AM.buildSliceL (xs := ([(cmp_Compare_int p0x0.At p1x0.At),(Lib.compareBytes p0x0.Device p1x0.Device),(Lib.compareBytes p0x0.Rule p1x0.Rule),(cmp_Compare_int p0x0.Kind p1x0.Kind)] : List Int).map I) J J J J J J<|bndE h fun v3 e1 h=>AM.callp J (cmp_Or_int_c e1) (CoL.refl _) J<|AM.qv (q_assign J) J<|AM.nil<|rN<|ATodo.ret<|?_
  obtain rfl := Option.some.inj h
  exact ImpX.here ⟨_,.cons (.tmp _ _ J) .nil,J⟩

theorem alarm_CheckSignals_c [GI : GTab] {p0x0 : List Signal} {r : Int} (h : alarm_CheckSignals p0x0 = some r) : Pu Tryz.prog 16 [lE2 p0x0] (I r) := by
  unfold alarm_CheckSignals at h
  refine ACall.bodyN Tryz.func16 J Tryz.ntmps16 Tryz.results16 J J ?_
  refine tSR<|rA J J<|rN<|tS<|tSR<|rM J J<|ARun.qv (t_len J) J<|ARun.qv (q_gtr J J) J<|rN<|ATodo.cond_d J (fun hc=>?_) (fun hc=>?_)
  · refine have h := iteT hc h; tSR<|rA J J<|rN<|ATodo.ret<|?_
    obtain rfl := Option.some.inj h
    exact ImpX.here ⟨_,.cons (.tmp _ _ J) .nil,J⟩
  · refine have h := iteF hc h; tK<|tS<|tSR<|rM J J<|ARun.qv (t_len J) J<|rM J J<|rN<|ATodo.block<|ATodo.loopI (fun x : Int=>alarm_CheckSignals_b1 p0x0 x) (fun x σ'=>σ' = ⟨34,[(0,lE2 p0x0),(9,lE2 p0x0),(10,I (p0x0.length : Int)),(11,I x)],[]⟩) h ?_ ?_
    · exact ImpX.lq [] J J J
    · intro n2 z1 σ' J1 hmk h hJ1 hA1
      obtain rfl := hmk
      replace h : alarm_CheckSignals_b1 p0x0 n2 = some z1 := h
      unfold alarm_CheckSignals_b1 at h
      refine tSR<|ARun.qv (q_lss J J) J<|rN<|tS<|ATodo.cond_d J (fun hc=>?_) (fun hc=>?_)
      · refine have h := iteT hc h; tK<|tS<|ATodo.block<|tSR<|rM J J<|bndE h fun v3 e1 h=>ARun.qv (t_index J J J e1 J J) J<|ARun.qv (q_load_rptr_agg J J J) J<|n_alloc J J J J fun b4=>rA J J<|n_store_ptr J J J J .p0 J J<|rN<|tS<|tSR<|ARun.qv (q_load_ptr_all J J .p0 J) J<|bndE h fun v5 e2 h=>r_callp J (alarm_signalFault_c e2) (CoL.refl _) J<|rA J J<|rN<|tSR<|rM J J<|ARun.qv (q_neq J J) J<|rN<|ATodo.cond_d J (fun hc=>?_) (fun hc=>?_)
        · refine have h := iteT hc h; tSR<|rM J J<|rA J J<|rN<|ATodo.ret<|have h := outL h hA1; ?_
          obtain rfl := Option.some.inj h
          exact ImpX.here ⟨_,.cons (.tmp _ _ J) .nil,J⟩
        · refine have h := iteF hc h; tK<|tS<|ATodo.cut (fun σ'=>∃ (c6 : Bool),alarm_CheckSignals_j1 n2 c6 = some z1 ∧ σ' = ⟨34,[(0,lE2 p0x0),(9,lE2 p0x0),(10,I (p0x0.length : Int)),(11,I n2),(32,.bool c6)],[]⟩) ?_ ?_
          · refine ATodo.regionM (id := 9) (A := [0,1,3,7,7,7,39,119,247,511,1023,2047]) 12 mixed J (by kernel_rfl) (by kernel_rfl)<|AM.qv (q_move J) J<|AM.qv (q_gtr J J) J<|AM.qv (q_move J) J<|AM.guard_dt J J J (fun hc=>?_) (fun hc=>?_)
            · exact have h := iteT hc h; AM.qv (q_load_ptr_all J J .p0 J) J<|AM.guard_yes J J J<|AM.qv (q_move J) J<|AM.guard_yes J J J<|AM.qv (q_move J) J<|AM.guard_yes J J J<|AM.qv (q_subw J J) J<|AM.guard_yes J J J<|bndE h fun v7 e3 h=>AM.qv (t_index J J J e3 J J) J<|AM.guard_yes J J J<|AM.qv (q_load_rptr_agg J J J) J<|AM.guard_yes J J J<|bndE h fun v8 e4 h=>AM.callp J (alarm_byMoment_c e4) (CoL.refl _) J<|AM.guard_yes J J J<|AM.qv (q_leq J J) J<|AM.qv (q_pick_t J J) J<|AM.nil<|rN<|ATodo.stop<|ImpX.lq [] ⟨decide (v8 ≤ (0 : Int)),h,J⟩ J J
            · exact have h := iteF hc h; AM.guard_no J J J J<|AM.guard_no J J J J<|AM.guard_no J J J J<|AM.guard_no J J J J<|AM.guard_no J J J J<|AM.guard_no J J J J<|AM.guard_no J J J J<|AM.qv (q_pick_f J J) J<|AM.nil<|rN<|ATodo.stop<|ImpX.lq [] ⟨false,h,J⟩ J J
          · rintro σ' ⟨c6, h, rfl⟩
            unfold alarm_CheckSignals_j1 at h
            refine ATodo.cond J (fun hc=>?_) (fun hc=>?_)
            · refine have h := iteT hc h; tSR<|rA J J<|rN<|ATodo.ret<|have h := outL h hA1; ?_
              obtain rfl := Option.some.inj h
              exact ImpX.here ⟨_,.cons (.tmp _ _ J) .nil,J⟩
            · refine have h := iteFb hc h; tK<|ATodo.blk<|tR<|ARun.qv (q_addw J J) J<|rM J J<|rN<|ATodo.stop<|?_
              obtain rfl := Option.some.inj h
              exact hJ1 _ _ J<|ImpX.lq [] J J J
      · refine have h := iteF hc h; ATodo.exit J<|have h := outL h hA1; tSR<|rA J J<|rN<|ATodo.ret<|?_
        obtain rfl := Option.some.inj h
        exact ImpX.here ⟨_,.cons (.tmp _ _ J) .nil,J⟩

theorem alarm_nameFault_c [GI : GTab] {p0x0 : List Signal} {p1x0 : Str} {p2x0 : Str} {r : Int} (h : alarm_nameFault p0x0 p1x0 p2x0 = some r) : Pu Tryz.prog 97 [lE2 p0x0,.str p1x0,.str p2x0] (I r) := by
  unfold alarm_nameFault at h
  refine ACall.bodyN Tryz.func97 J Tryz.ntmps97 Tryz.results97 J J ?_
  refine tSR<|rA J J<|rN<|tS<|tSR<|rM J J<|bndE h fun v1 e1 h=>r_callp J (alarm_CheckSignals_c e1) (CoL.refl _) J<|rA J J<|rN<|tSR<|rM J J<|ARun.qv (q_neq J J) J<|rN<|ATodo.cond_d J (fun hc=>?_) (fun hc=>?_)
  · refine have h := iteT hc h; tSR<|rM J J<|rA J J<|rN<|ATodo.ret<|?_
    obtain rfl := Option.some.inj h
    exact ImpX.here ⟨_,.cons (.tmp _ _ J) .nil,J⟩
  · refine have h := iteF hc h; tK<|tS<|tS<|ATodo.cut (fun σ'=>∃ (c2 : Bool),alarm_nameFault_j1 c2 = some r ∧ σ' = ⟨21,[(20,.bool c2)],[]⟩) ?_ ?_
    · refine tR<|rM J J<|bndE h fun v3 e2 h=>r_callp J (base_Key_c e2) (CoL.refl _) J<|ARun.qv (q_not J) J<|rM J J<|ARun.guard J J J (fun hc=>?_) (fun hc=>?_)
      · exact have h := iteFb hc h; rM J J<|rY J J J<|bndE h fun v4 e3 h=>r_callp J (base_Key_c e3) (CoL.refl _) J<|rY J J J<|ARun.qv (q_not J) J<|rE J J J<|rN<|ATodo.stop<|ImpX.lq [] ⟨!v4,h,J⟩ J J
      · exact have h := iteT hc h; rG J J J J<|rG J J J J<|rT J J J<|rN<|ATodo.stop<|ImpX.lq [] ⟨true,h,J⟩ J J
    · rintro σ' ⟨c2, h, rfl⟩
      unfold alarm_nameFault_j1 at h
      refine ATodo.cond J (fun hc=>?_) (fun hc=>?_)
      · refine have h := iteT hc h; tSR<|rA J J<|rN<|ATodo.ret<|?_
        obtain rfl := Option.some.inj h
        exact ImpX.here ⟨_,.cons (.tmp _ _ J) .nil,J⟩
      · refine have h := iteFb hc h; tK<|tSR<|rA J J<|rN<|ATodo.ret<|?_
        obtain rfl := Option.some.inj h
        exact ImpX.here ⟨_,.cons (.tmp _ _ J) .nil,J⟩

theorem alarm_byName_c [GI : GTab] {p0x0 : Alarm_name} {p1x0 : Alarm_name} {r : Int} (h : alarm_byName p0x0 p1x0 = some r) : Pu Tryz.prog 152 [Alarm_name.av p0x0,Alarm_name.av p1x0] (I r) := by
  unfold alarm_byName at h
  refine ACall.bodyN Tryz.func152 J Tryz.ntmps152 Tryz.results152 J J ?_
  refine tSR<|n_box J J J J fun b1=>n_box J J J J fun b2=>rA J J<|rN<|tS<|ATodo.regionM (id := 1) (A := [0,1,0,4,15,0,32,0,128,511,1023,2047,4095]) 13 mixed J (by kernel_rfl) (by kernel_rfl)<|AM.qv (n_field_ptr J J) J<|AM.qv (q_load_ptr J J .p1 J) J<|AM.qv (n_field_ptr J J) J<|AM.qv (q_load_ptr J J .p0 J) J<|AM.callp J (strings_Compare_c J) (CoL.refl _) J<|AM.qv (n_field_ptr J J) J<|AM.qv (q_load_ptr J J .p1 J) J<|AM.qv (n_field_ptr J J) J<|AM.qv (q_load_ptr J J .p0 J) J<|AM.callp J (strings_Compare_c J) (CoL.refl _) J<|AM.buildSliceL (xs := ([(Lib.compareBytes p0x0.device_ p1x0.device_),(Lib.compareBytes p0x0.rule_ p1x0.rule_)] : List Int).map I) J J J J J J<|bndE h fun v3 e1 h=>AM.callp J (cmp_Or_int_c e1) (CoL.refl _) J<|AM.qv (q_assign J) J<|AM.nil<|rN<|ATodo.ret<|?_
  obtain rfl := Option.some.inj h
  exact ImpX.here ⟨_,.cons (.tmp _ _ J) .nil,J⟩

theorem alarm_newHouse_1x_c [GI : GTab] {p0x0 : Alarm_life} {p1x0 : Alarm_life} {r : Int} (h : alarm_newHouse_1x p0x0 p1x0 = some r) : Pu Tryz.prog 151 [.rptr [.str p0x0.name_.device_,.str p0x0.name_.rule_,I p0x0.state_,I p0x0.since_,lE0 p0x0.raises_,I p0x0.shelved_,lE3 p0x0.up_,lE3 p0x0.fresh_,lE3 p0x0.aside_,lE0 p0x0.acks_,lE0 p0x0.waits_],.rptr [.str p1x0.name_.device_,.str p1x0.name_.rule_,I p1x0.state_,I p1x0.since_,lE0 p1x0.raises_,I p1x0.shelved_,lE3 p1x0.up_,lE3 p1x0.fresh_,lE3 p1x0.aside_,lE0 p1x0.acks_,lE0 p1x0.waits_]] (I r) := by
  unfold alarm_newHouse_1x at h
  refine ACall.bodyN Tryz.func151 J Tryz.ntmps151 Tryz.results151 J J ?_
  refine tSR<|rA J J<|rN<|tS<|ATodo.regionM (id := 1) (A := [0,1,3,7,0,16,48,112,255,511]) 10 mixed J (by kernel_rfl) (by kernel_rfl)<|AM.qv (q_move J) J<|AM.qv (q_nilCheck_rptr J) J<|AM.qv (n_field_rptr J J) J<|AM.qv (n_load_rptr_part J J J J) J<|AM.qv (q_move J) J<|AM.qv (q_nilCheck_rptr J) J<|AM.qv (n_field_rptr J J) J<|AM.qv (n_load_rptr_part J J J J) J<|bndE h fun v1 e1 h=>AM.callp J (alarm_byName_c e1) (CoL.refl _) J<|AM.qv (q_assign J) J<|AM.nil<|rN<|ATodo.ret<|?_
  obtain rfl := Option.some.inj h
  exact ImpX.here ⟨_,.cons (.tmp _ _ J) .nil,J⟩

theorem slices_SortFunc__alarm_life_alarm_life_k : SortP Tryz.prog 150 := ⟨fun enc h1 cf hO g cb blk off cap d w eg hc hH hb hs=>Any.slices_SortFunc_eq Tryz.sortP150 enc h1 cf hO g cb blk off cap d w eg hc hH hb hs,fun p cap fv w=>AnyF.slices_SortFunc_none { Tryz.sortP150 with } p cap fv w⟩

theorem alarm_newHouse_c [GI : GTab] {p0x0 : List Signal} {r : Alarm_house} (h : alarm_newHouse p0x0 = some r) : ACall Tryz.prog 91 [lE2 p0x0] [] (T6 (fun d_0 d_0x0 d_0x1 d_0x2 d_0x2o d_0x2s=>[(d_0,.cells [.mref d_0x0,.sl 1 d_0x1 0 r.order_.length]),(d_0x0,.mp (r.all_.map (fun e=>(Alarm_name.av e.1,(pA d_0x2o) e.2)))),(d_0x1,.arr 1 (r.order_.map (pA d_0x2o))),(d_0x2,.pool (araE kE0 d_0x2o d_0x2s r.ar0))]) (fun d_0 d_0x0 d_0x1 d_0x2 d_0x2o d_0x2s=>.ptr d_0 0)) := by
  unfold alarm_newHouse at h
  refine ACall.lessH ?_
  refine ACall.bodyN Tryz.func91 J Tryz.ntmps91 Tryz.results91 J J ?_
  refine tSR<|rA J J<|rN<|tSR<|t_makeMap J fun b1=>ARun.qv (n_build J J J J J) J<|n_box J J J J fun b2=>ARun.ghost<|ImpX.poolNew (kb := kE0) fun b3 bo4 bs5=>ImpX.here<|rA J J<|rN<|tS<|tSR<|rM J J<|ARun.qv (t_len J) J<|rM J J<|rN<|ATodo.block<|ATodo.loopI (fun x : (List (Alarm_name × Int)) × (List Alarm_life) × (List Int) × Int=>alarm_newHouse_b1 p0x0 x.1 x.2.1 x.2.2.1 x.2.2.2) (fun x σ'=>∃ (bo15 : Nat → Bk) (bs16 : Nat → Nat → Bk) (b17 : Bk),σ' = ⟨55,[(3,.ptr b2 0),(11,lE2 p0x0),(12,I (p0x0.length : Int)),(13,I x.2.2.2)],[(b2,.cells [.mref b1,.sl 1 b17 0 x.2.2.1.length]),(b1,.mp (x.1.map (fun e=>(Alarm_name.av e.1,(pA bo15) e.2)))),(b3,.pool (araE kE0 bo15 bs16 x.2.1)),(b17,.arr 1 (x.2.2.1.map (pA bo15)))]⟩) h ?_ ?_
  · exact ImpX.arrBox (j := 1) 1 (fun _=>.p1) J (fun _=>J) (fun _=>J) fun b20=>ImpX.lq [2,2,1,0] ⟨bo4,bs5,b20,J⟩ J J
  · intro x z1 σ' J1 hmk h hJ1 hA1
    obtain ⟨l13, l14, l18, n19⟩ := x
    obtain ⟨bo15, bs16, b17, rfl⟩ := hmk
    replace h : alarm_newHouse_b1 p0x0 l13 l14 l18 n19 = some z1 := h
    unfold alarm_newHouse_b1 at h
    refine tSR<|ARun.qv (q_lss J J) J<|rN<|tS<|ATodo.cond_d J (fun hc=>?_) (fun hc=>?_)
    · refine have h := iteT hc h; tK<|tS<|ATodo.cut (fun σ'=>∃ (bo23 : Nat → Bk) (bs24 : Nat → Nat → Bk) (b25 : Bk) (l21 : List (Alarm_name × Int)) (l22 : List Alarm_life) (l26 : List Int),alarm_newHouse_j1 n19 l21 l22 l26 = some z1 ∧ σ' = ⟨55,[(3,.ptr b2 0),(11,lE2 p0x0),(12,I (p0x0.length : Int)),(13,I n19)],[(b2,.cells [.mref b1,.sl 1 b25 0 l26.length]),(b1,.mp (l21.map (fun e=>(Alarm_name.av e.1,(pA bo23) e.2)))),(b3,.pool (araE kE0 bo23 bs24 l22)),(b25,.arr 1 (l26.map (pA bo23)))]⟩) ?_ ?_
      · refine ATodo.block<|tSR<|bndE h fun v27 e1 h=>ARun.qv (t_index J J J e1 J J) J<|ARun.qv (q_load_rptr_agg J J J) J<|n_alloc J J J J fun b28=>n_store_ptr J J J J .p0 J J<|rN<|tSR<|rF J J J<|rL J J .p0 J J<|rF J J J<|rL J J .p0 J J<|ARun.qv (n_build J J J J J) J<|n_alloc J J J J fun b29=>n_store_ptr J J J J .p0 J J<|rN<|tS<|ATodo.regionM (id := 6) (A := [0,1,3,7,0,31,63]) 7 mixed J (by kernel_rfl) (by kernel_rfl)<|AM.qv (q_move J) J<|AM.qv (q_nilCheck_ptr J) J<|AM.qv (n_field_ptr J J) J<|AM.qv (q_load_ptr J J .p2 J) J<|AM.qv (q_load_ptr_all J J .p0 J) J<|optE h (fun e2 h=>?_) (fun n30 e2 h=>?_)
        · exact AM.qv (t_lookupA0 (gk := Alarm_name.av) (gv := (pA bo15)) (M := l13) (key := (⟨v27.Device,v27.Rule⟩ : Alarm_name)) J J .p3 J e2) J<|AM.qv (q_ppneql J J) J<|AM.nil<|rN<|ATodo.cond_t J<|tSR<|ARun.qv (q_load_ptr_all J J .p0 J) J<|ARun.qv (n_build J J J J J) J<|n_box J J J J fun b31=>rA J J<|rN<|tS<|ATodo.regionM (id := 8) (A := [0,1,3,7,0,0,63]) 6 mixed J (by kernel_rfl) (by kernel_rfl)<|AM.qv (q_move J) J<|AM.qv (q_nilCheck_ptr J) J<|AM.qv (n_field_ptr J J) J<|AM.qv (q_load_ptr J J .p3 J) J<|AM.qv (q_load_ptr_all J J .p1 J) J<|AM.qv (q_move J) J<|AM.nil<|ARun.ghost<|ImpX.arrBox (j := 4) 1 (fun _=>.p0) J (fun _=>J) (fun _=>J) fun b32=>ImpX.here<|ARun.ghost<|ImpX.arrBox (j := 6) 2 (fun _=>.p1) J (fun _=>J) (fun _=>J) fun b33=>ImpX.here<|ARun.ghost<|ImpX.arrBox (j := 7) 2 (fun _=>.p2) J (fun _=>J) (fun _=>J) fun b34=>ImpX.here<|ARun.ghost<|ImpX.arrBox (j := 8) 2 (fun _=>.p3) J (fun _=>J) (fun _=>J) fun b35=>ImpX.here<|ARun.ghost<|ImpX.arrBox (j := 9) 1 (fun _=>.p4) J (fun _=>J) (fun _=>J) fun b36=>ImpX.here<|ARun.ghost<|ImpX.arrBox (j := 10) 1 (fun _=>.p5) J (fun _=>J) (fun _=>J) fun b37=>ImpX.here<|bndE h fun u38 e3 h=>ARun.ghost<|ImpX.araAddN (kb := kE0) (v := (⟨(⟨v27.Device,v27.Rule⟩ : Alarm_name),(0 : Int),(0 : Int),[],(0 : Int),[],[],[],[],[]⟩ : Alarm_life)) (s := nbk [b32,b33,b34,b35,b36,b37]) (.cons .p6 (.cons .p5 (.cons .p4 (.cons .p3 (.cons .p2 (.cons .p1 (.cons .p0 .nil))))))) J (fun _ _=>.p4) fun bo39 bs40 hEe4 hNe4=>ImpX.here<|ARun.ghost<|ImpX.obEq (re_mp hEe4 (inB_l e3)) .p3<|ImpX.here<|ARun.ghost<|ImpX.obEq (re_arr hEe4 (inB_r e3)) .p5<|ImpX.here<|ARun.ghost<|ImpX.eqs (s := 31) (av' := .ptr (bo39 (l14.length : Int).toNat) 0) J (re_new hNe4 _)<|ImpX.here<|ARun.ghost<|ImpX.eqs (s := 7) (av' := .ptr (bo39 (l14.length : Int).toNat) 0) J (re_new hNe4 _)<|ImpX.here<|ARun.ghost<|ImpX.eqs (s := 37) (av' := .ptr (bo39 (l14.length : Int).toNat) 0) J (re_new hNe4 _)<|ImpX.here<|t_mapUpdate (gk := Alarm_name.av) (gv := (pA bo39)) (M := l13) (key := (⟨v27.Device,v27.Rule⟩ : Alarm_name)) (v := (l14.length : Int)) J J J J .p3<|rN<|tR<|rM J J<|rM J J<|ARun.qv (q_nilCheck_ptr J) J<|rF J J J<|rL J J .p2 J J<|rM J J<|n_buildSliceL (xs := ([(l14.length : Int)]).map (pA bo39)) J J J J J J<|bndE h fun l41 e5 h=>t_append (g := (pA bo39)) J J J J J J J J (.list _) e5 (fun _=>.p5) J fun b42=>ARun.qv (q_nilCheck_ptr J) J<|rF J J J<|n_store_ptr J J J J .p2 J J<|rN<|ATodo.blk<|ATodo.stop<|ImpX.lq [2,2,2,2] ⟨bo39,bs40,b42,mset l13 (⟨v27.Device,v27.Rule⟩ : Alarm_name) (l14.length : Int),l14 ++ [(⟨(⟨v27.Device,v27.Rule⟩ : Alarm_name),(0 : Int),(0 : Int),[],(0 : Int),[],[],[],[],[]⟩ : Alarm_life)],l41,h,J⟩ J J
        · exact AM.qv (t_lookupA1 (gk := Alarm_name.av) (gv := (pA bo15)) (M := l13) (key := (⟨v27.Device,v27.Rule⟩ : Alarm_name)) J J .p3 e2) J<|AM.qv (q_ppeql J J) J<|AM.nil<|rN<|ATodo.cond_f J<|tK<|ATodo.blk<|ATodo.stop<|ImpX.lq [2,2,2,2] ⟨bo15,bs16,b17,l13,l14,l18,h,J⟩ J J
      · rintro σ' ⟨bo23, bs24, b25, l21, l22, l26, h, rfl⟩
        unfold alarm_newHouse_j1 at h
        refine tR<|ARun.qv (q_addw J J) J<|rM J J<|rN<|ATodo.stop<|?_
        obtain rfl := Option.some.inj h
        exact hJ1 _ _ J<|ImpX.lq [0,0,0,0] ⟨bo23,bs24,b25,J⟩ J J
    · refine have h := iteF hc h; ATodo.exit J<|have h := outL h hA1; ?_
      unfold alarm_newHouse_k2 at h
      refine tSR<|rM J J<|ARun.qv (q_nilCheck_ptr J) J<|rF J J J<|rL J J .p0 J J<|bndE h fun l43 e6 h=>t_call0 J (sortA_acall slices_SortFunc__alarm_life_alarm_life_k KB0 (fun e=>alarm_newHouse_1x_c (GI := strongT) e) e6) (CoL.refl _) (.cons .p3 (.cons .p2 .nil)) J J<|ARun.ghost<|ImpX.eqs (s := 52) (av' := .sl 1 b17 0 l43.length) J (congrArg (AV.sl 1 b17 0) (sortA_len e6))<|ImpX.here<|ARun.ghost<|ImpX.eqBox (j := 1) (av' := .sl 1 b17 0 l43.length) .p2 J (congrArg (AV.sl 1 b17 0) (sortA_len e6)) J<|ImpX.here<|rN<|tSR<|rM J J<|rA J J<|rN<|ATodo.ret<|?_
      obtain rfl := Option.some.inj h
      exact ImpX.here ⟨_,.cons (.tmp _ _ J) .nil,_,.cons .p2 (.cons .p2 (.cons .p0 (.cons .p0 .nil))),⟨b2,b1,b17,b3,bo15,bs16,J,J⟩⟩

theorem alarm_life_turn_1x_c [GI : GTab] {b_0 : Bk} {p0x0 : List Window} {r : Int} (h : alarm_life_turn_1x p0x0 = some r) : ACall Tryz.prog 249 [.sl 2 b_0 0 p0x0.length] [(b_0,aE3 p0x0)] (T0 ([(b_0,aE3 p0x0)]) (.aptr 2 b_0 r.toNat 0)) := by
  unfold alarm_life_turn_1x at h
  refine ACall.lessH ?_
  refine ACall.bodyN Tryz.func249 J Tryz.ntmps249 Tryz.results249 J J ?_
  refine tSR<|rA J J<|rN<|tSR<|rM J J<|rM J J<|ARun.qv (t_len_sl J) J<|ARun.qv (q_subw J J) J<|bndE h fun v1 e1 h=>ARun.qv (t_index_sl J J J e1) J<|rA J J<|rN<|ATodo.ret<|?_
  obtain rfl := Option.some.inj h
  exact ImpX.here ⟨_,.cons (.tmp _ _ J) .nil,_,.cons .p0 .nil,⟨J,J⟩⟩

theorem alarm_life_turn_c [GI : GTab] {b_0 : Bk} {b_0x4 : Bk} {b_0x6 : Bk} {b_0x7 : Bk} {b_0x8 : Bk} {b_0x9 : Bk} {b_0x10 : Bk} {p0x0 : Alarm_life} {p1x0 : Int} {p2x0 : Int} {r : Alarm_life} (h : alarm_life_turn p0x0 p1x0 p2x0 = some r) : ACall Tryz.prog 206 [.ptr b_0 0,I p1x0,I p2x0] [(b_0,.cells (cE1 p0x0 b_0x4 b_0x6 b_0x7 b_0x8 b_0x9 b_0x10)),(b_0x4,aE0 p0x0.raises_),(b_0x6,aE3 p0x0.up_),(b_0x7,aE3 p0x0.fresh_),(b_0x8,aE3 p0x0.aside_),(b_0x9,aE0 p0x0.acks_),(b_0x10,aE0 p0x0.waits_)] (T6 (fun c_0x4 c_0x6 c_0x7 c_0x8 c_0x9 c_0x10=>[(b_0,.cells (cE1 r c_0x4 c_0x6 c_0x7 c_0x8 c_0x9 c_0x10)),(c_0x4,aE0 r.raises_),(c_0x6,aE3 r.up_),(c_0x7,aE3 r.fresh_),(c_0x8,aE3 r.aside_),(c_0x9,aE0 r.acks_),(c_0x10,aE0 r.waits_)]) (fun c_0x4 c_0x6 c_0x7 c_0x8 c_0x9 c_0x10=>.tup [])) := by
  unfold alarm_life_turn at h
  refine ACall.lessH ?_
  refine ACall.bodyN Tryz.func206 J Tryz.ntmps206 Tryz.results206 J J ?_
  refine tSR<|rA J J<|rN<|tS<|ATodo.cut (fun σ'=>∃ (c1 : Bool) (c2 : Bool),alarm_life_turn_j1 p0x0 p1x0 p2x0 c1 c2 = some r ∧ σ' = ⟨92,[(0,.ptr b_0 0),(1,I p1x0),(2,I p2x0),(6,.func (.func 249) []),(7,.bool c1),(8,.bool c2)],[(b_0,.cells (cE1 p0x0 b_0x4 b_0x6 b_0x7 b_0x8 b_0x9 b_0x10)),(b_0x4,aE0 p0x0.raises_),(b_0x6,aE3 p0x0.up_),(b_0x7,aE3 p0x0.fresh_),(b_0x8,aE3 p0x0.aside_),(b_0x9,aE0 p0x0.acks_),(b_0x10,aE0 p0x0.waits_)]⟩) ?_ ?_
  · refine tR<|rM J J<|ARun.qv (q_nilCheck_ptr J) J<|rF J J J<|rL J J .p0 J J<|ARun.qv (q_eql J J) J<|rM J J<|ARun.guard_df J J J (fun hc=>?_) (fun hc=>?_)
    · rw [orFd hc] at h
      refine rM J J<|rY J J J<|ARun.qv (q_nilCheck_ptr J) J<|rY J J J<|rF J J J<|rY J J J<|rL J J .p0 J J<|rY J J J<|ARun.qv (q_eql J J) J<|rE J J J<|rM J J<|ARun.qv (q_eql J J) J<|rM J J<|ARun.guard_df J J J (fun hc=>?_) (fun hc=>?_)
      · rw [orFd hc] at h
        exact rM J J<|rY J J J<|ARun.qv (q_eql J J) J<|rE J J J<|rA J J<|rA J J<|rN<|ATodo.stop<|ImpX.lq [0,0,0,0,0,0,0] ⟨decide (p0x0.state_ = (2 : Int)),decide (p1x0 = (2 : Int)),h,J⟩ J J
      · rw [orTd hc] at h
        exact rG J J J J<|rT J J J<|rA J J<|rA J J<|rN<|ATodo.stop<|ImpX.lq [0,0,0,0,0,0,0] ⟨decide (p0x0.state_ = (2 : Int)),true,h,J⟩ J J
    · rw [orTd hc] at h
      refine rG J J J J<|rG J J J J<|rG J J J J<|rG J J J J<|rT J J J<|rM J J<|ARun.qv (q_eql J J) J<|rM J J<|ARun.guard_df J J J (fun hc=>?_) (fun hc=>?_)
      · rw [orFd hc] at h
        exact rM J J<|rY J J J<|ARun.qv (q_eql J J) J<|rE J J J<|rA J J<|rA J J<|rN<|ATodo.stop<|ImpX.lq [0,0,0,0,0,0,0] ⟨true,decide (p1x0 = (2 : Int)),h,J⟩ J J
      · rw [orTd hc] at h
        exact rG J J J J<|rT J J J<|rA J J<|rA J J<|rN<|ATodo.stop<|ImpX.lq [0,0,0,0,0,0,0] ⟨true,true,h,J⟩ J J
  · rintro σ' ⟨c1, c2, h, rfl⟩
    unfold alarm_life_turn_j1 at h
    refine tS<|tSR<|rM J J<|ARun.qv (q_nilCheck_ptr J) J<|rF J J J<|rL J J .p0 J J<|ARun.qv (q_eql J J) J<|rN<|ATodo.cut (fun σ'=>∃ (l3 : List Window),alarm_life_turn_j2 p0x0 p1x0 p2x0 c1 c2 l3 = some r ∧ σ' = ⟨92,[(0,.ptr b_0 0),(1,I p1x0),(2,I p2x0),(6,.func (.func 249) []),(7,.bool c1),(8,.bool c2)],[(b_0,.cells [.str p0x0.name_.device_,.str p0x0.name_.rule_,I p0x0.state_,I p0x0.since_,.sl 1 b_0x4 0 p0x0.raises_.length,I p0x0.shelved_,.sl 2 b_0x6 0 p0x0.up_.length,.sl 2 b_0x7 0 l3.length,.sl 2 b_0x8 0 p0x0.aside_.length,.sl 1 b_0x9 0 p0x0.acks_.length,.sl 1 b_0x10 0 p0x0.waits_.length]),(b_0x4,aE0 p0x0.raises_),(b_0x6,aE3 p0x0.up_),(b_0x7,aE3 l3),(b_0x8,aE3 p0x0.aside_),(b_0x9,aE0 p0x0.acks_),(b_0x10,aE0 p0x0.waits_)]⟩) ?_ ?_
    · refine ATodo.cond_d J (fun hc=>?_) (fun hc=>?_)
      · exact have h := iteT hc h; tR<|rM J J<|rM J J<|ARun.qv (q_nilCheck_ptr J) J<|rF J J J<|rL J J .p0 J J<|bndE h fun v4 e1 h=>t_callv0 J J J (alarm_life_turn_1x_c e1) (CoL.refl _) (.cons .p3 .nil) J J<|rM J J<|ARun.qv (q_nilCheck_aptr J) J<|ARun.qv (t_field_aptr J J) J<|bndE h fun v5 e2 h=>t_store_aptr1 (g := Window.av) (el' := (⟨v5.From,p2x0⟩ : Window)) J J J J e2 J .p0 J<|ARun.ghost<|ImpX.eqs (s := 36) (av' := .sl 2 b_0x7 0 (p0x0.fresh_.set v4.toNat (⟨v5.From,p2x0⟩ : Window)).length) J (by rw [List.length_set])<|ImpX.here<|ARun.ghost<|ImpX.eqBox (j := 7) (av' := .sl 2 b_0x7 0 (p0x0.fresh_.set v4.toNat (⟨v5.From,p2x0⟩ : Window)).length) .p1 J (by rw [List.length_set]) J<|ImpX.here<|rN<|ATodo.stop<|ImpX.lq [1,1,1,0,0,0,0] ⟨p0x0.fresh_.set v4.toNat (⟨v5.From,p2x0⟩ : Window),h,J⟩ J J
      · exact have h := iteF hc h; tK<|ATodo.stop<|ImpX.lq [0,0,0,0,0,0,0] ⟨p0x0.fresh_,h,J⟩ J J
    · rintro σ' ⟨l3, h, rfl⟩
      unfold alarm_life_turn_j2 at h
      refine tS<|tS<|ATodo.cut (fun σ'=>∃ (c6 : Bool),alarm_life_turn_j3 p0x0 p1x0 p2x0 c1 c2 l3 c6 = some r ∧ σ' = ⟨92,[(0,.ptr b_0 0),(1,I p1x0),(2,I p2x0),(6,.func (.func 249) []),(7,.bool c1),(8,.bool c2),(45,.bool c6)],[(b_0,.cells [.str p0x0.name_.device_,.str p0x0.name_.rule_,I p0x0.state_,I p0x0.since_,.sl 1 b_0x4 0 p0x0.raises_.length,I p0x0.shelved_,.sl 2 b_0x6 0 p0x0.up_.length,.sl 2 b_0x7 0 l3.length,.sl 2 b_0x8 0 p0x0.aside_.length,.sl 1 b_0x9 0 p0x0.acks_.length,.sl 1 b_0x10 0 p0x0.waits_.length]),(b_0x4,aE0 p0x0.raises_),(b_0x6,aE3 p0x0.up_),(b_0x7,aE3 l3),(b_0x8,aE3 p0x0.aside_),(b_0x9,aE0 p0x0.acks_),(b_0x10,aE0 p0x0.waits_)]⟩) ?_ ?_
      · refine tR<|rM J J<|rM J J<|ARun.guard J J J (fun hc=>?_) (fun hc=>?_)
        · rw [andTb hc] at h
          exact rM J J<|rY J J J<|ARun.qv (q_not J) J<|rT J J J<|rN<|ATodo.stop<|ImpX.lq [0,0,0,0,0,0,0] ⟨!c2,h,J⟩ J J
        · rw [andFb hc] at h
          exact rG J J J J<|rE J J J<|rN<|ATodo.stop<|ImpX.lq [0,0,0,0,0,0,0] ⟨false,h,J⟩ J J
      · rintro σ' ⟨c6, h, rfl⟩
        unfold alarm_life_turn_j3 at h
        refine ATodo.cut (fun σ'=>∃ (l7 : List Window),alarm_life_turn_j4 p0x0 p1x0 p2x0 c1 c2 l3 l7 = some r ∧ σ' = ⟨92,[(0,.ptr b_0 0),(1,I p1x0),(2,I p2x0),(7,.bool c1),(8,.bool c2)],[(b_0,.cells [.str p0x0.name_.device_,.str p0x0.name_.rule_,I p0x0.state_,I p0x0.since_,.sl 1 b_0x4 0 p0x0.raises_.length,I p0x0.shelved_,.sl 2 b_0x6 0 l7.length,.sl 2 b_0x7 0 l3.length,.sl 2 b_0x8 0 p0x0.aside_.length,.sl 1 b_0x9 0 p0x0.acks_.length,.sl 1 b_0x10 0 p0x0.waits_.length]),(b_0x4,aE0 p0x0.raises_),(b_0x6,aE3 l7),(b_0x7,aE3 l3),(b_0x8,aE3 p0x0.aside_),(b_0x9,aE0 p0x0.acks_),(b_0x10,aE0 p0x0.waits_)]⟩) ?_ ?_
        · refine ATodo.cond J (fun hc=>?_) (fun hc=>?_)
          · exact have h := iteT hc h; tR<|rM J J<|rM J J<|ARun.qv (q_nilCheck_ptr J) J<|rF J J J<|rL J J .p0 J J<|bndE h fun v8 e3 h=>t_callv0 J J J (alarm_life_turn_1x_c e3) (CoL.refl _) (.cons .p2 .nil) J J<|rM J J<|ARun.qv (q_nilCheck_aptr J) J<|ARun.qv (t_field_aptr J J) J<|bndE h fun v9 e4 h=>t_store_aptr1 (g := Window.av) (el' := (⟨v9.From,p2x0⟩ : Window)) J J J J e4 J .p0 J<|ARun.ghost<|ImpX.eqs (s := 50) (av' := .sl 2 b_0x6 0 (p0x0.up_.set v8.toNat (⟨v9.From,p2x0⟩ : Window)).length) J (by rw [List.length_set])<|ImpX.here<|ARun.ghost<|ImpX.eqBox (j := 6) (av' := .sl 2 b_0x6 0 (p0x0.up_.set v8.toNat (⟨v9.From,p2x0⟩ : Window)).length) .p1 J (by rw [List.length_set]) J<|ImpX.here<|rN<|ATodo.stop<|ImpX.lq [1,1,0,0,0,0,0] ⟨p0x0.up_.set v8.toNat (⟨v9.From,p2x0⟩ : Window),h,J⟩ J J
          · exact have h := iteFb hc h; tK<|ATodo.stop<|ImpX.lq [0,0,0,0,0,0,0] ⟨p0x0.up_,h,J⟩ J J
        · rintro σ' ⟨l7, h, rfl⟩
          unfold alarm_life_turn_j4 at h
          refine tS<|tSR<|rM J J<|ARun.qv (q_eql J J) J<|rN<|ATodo.cut (fun σ'=>∃ (b10 : Bk) (l11 : List Window),alarm_life_turn_j5 p0x0 p1x0 p2x0 c1 c2 l7 l11 = some r ∧ σ' = ⟨92,[(0,.ptr b_0 0),(1,I p1x0),(2,I p2x0),(7,.bool c1),(8,.bool c2)],[(b_0,.cells [.str p0x0.name_.device_,.str p0x0.name_.rule_,I p0x0.state_,I p0x0.since_,.sl 1 b_0x4 0 p0x0.raises_.length,I p0x0.shelved_,.sl 2 b_0x6 0 l7.length,.sl 2 b10 0 l11.length,.sl 2 b_0x8 0 p0x0.aside_.length,.sl 1 b_0x9 0 p0x0.acks_.length,.sl 1 b_0x10 0 p0x0.waits_.length]),(b_0x4,aE0 p0x0.raises_),(b_0x6,aE3 l7),(b10,aE3 l11),(b_0x8,aE3 p0x0.aside_),(b_0x9,aE0 p0x0.acks_),(b_0x10,aE0 p0x0.waits_)]⟩) ?_ ?_
          · refine ATodo.cond_d J (fun hc=>?_) (fun hc=>?_)
            · exact have h := iteT hc h; tR<|rM J J<|rM J J<|ARun.qv (q_nilCheck_ptr J) J<|rF J J J<|rL J J .p0 J J<|rM J J<|ARun.qv (n_build J J J J J) J<|n_buildSliceL (xs := ([(⟨p2x0,(345686400000 : Int)⟩ : Window)]).map Window.av) J J J J J J<|bndE h fun l12 e5 h=>t_append (g := Window.av) J J J J J J J J (.list _) e5 (fun _=>.p3) J fun b13=>ARun.qv (q_nilCheck_ptr J) J<|rF J J J<|n_store_ptr J J J J .p0 J J<|rN<|ATodo.stop<|ImpX.lq [0,0,0,0,0,0,0] ⟨b13,l12,h,J⟩ J J
            · exact have h := iteF hc h; tK<|ATodo.stop<|ImpX.lq [0,0,0,0,0,0,0] ⟨b_0x7,l3,h,J⟩ J J
          · rintro σ' ⟨b10, l11, h, rfl⟩
            unfold alarm_life_turn_j5 at h
            refine tS<|tS<|ATodo.cut (fun σ'=>∃ (c14 : Bool),alarm_life_turn_j6 p0x0 p1x0 p2x0 l7 l11 c14 = some r ∧ σ' = ⟨92,[(0,.ptr b_0 0),(1,I p1x0),(2,I p2x0),(72,.bool c14)],[(b_0,.cells [.str p0x0.name_.device_,.str p0x0.name_.rule_,I p0x0.state_,I p0x0.since_,.sl 1 b_0x4 0 p0x0.raises_.length,I p0x0.shelved_,.sl 2 b_0x6 0 l7.length,.sl 2 b10 0 l11.length,.sl 2 b_0x8 0 p0x0.aside_.length,.sl 1 b_0x9 0 p0x0.acks_.length,.sl 1 b_0x10 0 p0x0.waits_.length]),(b_0x4,aE0 p0x0.raises_),(b_0x6,aE3 l7),(b10,aE3 l11),(b_0x8,aE3 p0x0.aside_),(b_0x9,aE0 p0x0.acks_),(b_0x10,aE0 p0x0.waits_)]⟩) ?_ ?_
            · refine tR<|rM J J<|rM J J<|ARun.guard J J J (fun hc=>?_) (fun hc=>?_)
              · rw [andTb hc] at h
                exact rM J J<|rY J J J<|ARun.qv (q_not J) J<|rT J J J<|rN<|ATodo.stop<|ImpX.lq [0,0,0,0,0,0,0] ⟨!c1,h,J⟩ J J
              · rw [andFb hc] at h
                exact rG J J J J<|rE J J J<|rN<|ATodo.stop<|ImpX.lq [0,0,0,0,0,0,0] ⟨false,h,J⟩ J J
            · rintro σ' ⟨c14, h, rfl⟩
              unfold alarm_life_turn_j6 at h
              refine ATodo.cut (fun σ'=>∃ (b15 : Bk) (l16 : List Window),alarm_life_turn_j7 p0x0 p1x0 p2x0 l11 l16 = some r ∧ σ' = ⟨92,[(0,.ptr b_0 0),(1,I p1x0),(2,I p2x0)],[(b_0,.cells [.str p0x0.name_.device_,.str p0x0.name_.rule_,I p0x0.state_,I p0x0.since_,.sl 1 b_0x4 0 p0x0.raises_.length,I p0x0.shelved_,.sl 2 b15 0 l16.length,.sl 2 b10 0 l11.length,.sl 2 b_0x8 0 p0x0.aside_.length,.sl 1 b_0x9 0 p0x0.acks_.length,.sl 1 b_0x10 0 p0x0.waits_.length]),(b_0x4,aE0 p0x0.raises_),(b15,aE3 l16),(b10,aE3 l11),(b_0x8,aE3 p0x0.aside_),(b_0x9,aE0 p0x0.acks_),(b_0x10,aE0 p0x0.waits_)]⟩) ?_ ?_
              · refine ATodo.cond J (fun hc=>?_) (fun hc=>?_)
                · exact have h := iteT hc h; tR<|rM J J<|rM J J<|ARun.qv (q_nilCheck_ptr J) J<|rF J J J<|rL J J .p0 J J<|rM J J<|ARun.qv (n_build J J J J J) J<|n_buildSliceL (xs := ([(⟨p2x0,(345686400000 : Int)⟩ : Window)]).map Window.av) J J J J J J<|bndE h fun l17 e6 h=>t_append (g := Window.av) J J J J J J J J (.list _) e6 (fun _=>.p2) J fun b18=>ARun.qv (q_nilCheck_ptr J) J<|rF J J J<|n_store_ptr J J J J .p0 J J<|rN<|ATodo.stop<|ImpX.lq [0,0,0,0,0,0,0] ⟨b18,l17,h,J⟩ J J
                · exact have h := iteFb hc h; tK<|ATodo.stop<|ImpX.lq [0,0,0,0,0,0,0] ⟨b_0x6,l7,h,J⟩ J J
              · rintro σ' ⟨b15, l16, h, rfl⟩
                unfold alarm_life_turn_j7 at h
                refine tR<|rM J J<|rM J J<|rM J J<|rM J J<|ARun.qv (q_nilCheck_ptr J) J<|rF J J J<|n_store_ptr J J J J .p0 J J<|ARun.qv (q_nilCheck_ptr J) J<|rF J J J<|n_store_ptr J J J J .p0 J J<|rN<|ATodo.nil<|?_
                obtain rfl := Option.some.inj h
                exact ImpX.here ⟨_,.nil,_,.cons .p0 (.cons .p0 (.cons .p0 (.cons .p0 (.cons .p0 (.cons .p0 (.cons .p0 .nil)))))),⟨b_0x4,b15,b10,b_0x8,b_0x9,b_0x10,J,J⟩⟩

theorem alarm_life_lower_c [GI : GTab] {b_0 : Bk} {b_0x4 : Bk} {b_0x6 : Bk} {b_0x7 : Bk} {b_0x8 : Bk} {b_0x9 : Bk} {b_0x10 : Bk} {p0x0 : Alarm_life} {p1x0 : Signal} {r : Int × Alarm_life} (h : alarm_life_lower p0x0 p1x0 = some r) : ACall Tryz.prog 207 [.ptr b_0 0,Signal.av p1x0] [(b_0,.cells (cE1 p0x0 b_0x4 b_0x6 b_0x7 b_0x8 b_0x9 b_0x10)),(b_0x4,aE0 p0x0.raises_),(b_0x6,aE3 p0x0.up_),(b_0x7,aE3 p0x0.fresh_),(b_0x8,aE3 p0x0.aside_),(b_0x9,aE0 p0x0.acks_),(b_0x10,aE0 p0x0.waits_)] (T6 (fun c_0x4 c_0x6 c_0x7 c_0x8 c_0x9 c_0x10=>[(b_0,.cells (cE1 r.2 c_0x4 c_0x6 c_0x7 c_0x8 c_0x9 c_0x10)),(c_0x4,aE0 r.2.raises_),(c_0x6,aE3 r.2.up_),(c_0x7,aE3 r.2.fresh_),(c_0x8,aE3 r.2.aside_),(c_0x9,aE0 r.2.acks_),(c_0x10,aE0 r.2.waits_)]) (fun c_0x4 c_0x6 c_0x7 c_0x8 c_0x9 c_0x10=>I r.1)) := by
  unfold alarm_life_lower at h
  refine ACall.lessH ?_
  refine ACall.bodyN Tryz.func207 J Tryz.ntmps207 Tryz.results207 J J ?_
  refine tSR<|n_box J J J J fun b1=>rA J J<|rN<|tSR<|rF J J J<|rL J J .p0 J J<|ARun.qv (q_eql J J) J<|rA J J<|rN<|tS<|ATodo.block<|tS<|ATodo.cut (fun σ'=>∃ (c2 : Bool),alarm_life_lower_j1 p0x0 p1x0 c2 = some r ∧ σ' = ⟨95,[(0,.ptr b_0 0),(3,.ptr b1 0),(5,.bool (decide (p1x0.Kind = (2 : Int)))),(9,.bool c2)],[(b_0,.cells (cE1 p0x0 b_0x4 b_0x6 b_0x7 b_0x8 b_0x9 b_0x10)),(b_0x4,aE0 p0x0.raises_),(b_0x6,aE3 p0x0.up_),(b_0x7,aE3 p0x0.fresh_),(b_0x8,aE3 p0x0.aside_),(b_0x9,aE0 p0x0.acks_),(b_0x10,aE0 p0x0.waits_),(b1,.cells (cE0 p1x0))]⟩) ?_ ?_
  · refine tR<|rM J J<|rM J J<|ARun.guard_dt J J J (fun hc=>?_) (fun hc=>?_)
    · rw [andTd hc] at h
      exact rM J J<|rY J J J<|ARun.qv (q_nilCheck_ptr J) J<|rY J J J<|rF J J J<|rY J J J<|rL J J .p1 J J<|rY J J J<|ARun.qv (q_eql J J) J<|rT J J J<|rA J J<|rN<|ATodo.stop<|ImpX.lq [1,1,1,1,1,1,1,0] ⟨decide (p0x0.state_ = (1 : Int)),h,J⟩ J J
    · rw [andFd hc] at h
      exact rG J J J J<|rG J J J J<|rG J J J J<|rG J J J J<|rE J J J<|rA J J<|rN<|ATodo.stop<|ImpX.lq [1,1,1,1,1,1,1,0] ⟨false,h,J⟩ J J
  · rintro σ' ⟨c2, h, rfl⟩
    unfold alarm_life_lower_j1 at h
    refine ATodo.cut (fun σ'=>∃ (b7 : Bk) (b10 : Bk) (b12 : Bk) (b14 : Bk) (b16 : Bk) (b18 : Bk) (q3 : Str) (q4 : Str) (n5 : Int) (n6 : Int) (l8 : List Int) (n9 : Int) (l11 : List Window) (l13 : List Window) (l15 : List Window) (l17 : List Int) (l19 : List Int),alarm_life_lower_j2 p1x0 q3 q4 n5 n6 l8 n9 l11 l13 l15 l17 l19 = some r ∧ σ' = ⟨95,[(0,.ptr b_0 0),(3,.ptr b1 0),(5,.bool (decide (p1x0.Kind = (2 : Int))))],[(b_0,.cells [.str q3,.str q4,I n5,I n6,.sl 1 b7 0 l8.length,I n9,.sl 2 b10 0 l11.length,.sl 2 b12 0 l13.length,.sl 2 b14 0 l15.length,.sl 1 b16 0 l17.length,.sl 1 b18 0 l19.length]),(b7,aE0 l8),(b10,aE3 l11),(b12,aE3 l13),(b14,aE3 l15),(b16,aE0 l17),(b18,aE0 l19),(b1,.cells (cE0 p1x0))]⟩) ?_ ?_
    · refine ATodo.cond J (fun hc=>?_) (fun hc=>?_)
      · exact have h := iteT hc h; tR<|rM J J<|rF J J J<|rL J J .p7 J J<|bndE h fun v20 e1 h=>t_call6 J (alarm_life_turn_c e1) (CoL.refl _) (.cons .p0 (.cons .p0 (.cons .p0 (.cons .p0 (.cons .p0 (.cons .p0 (.cons .p0 .nil))))))) (fun _ _ _ _ _ _=>J) J fun b21 b22 b23 b24 b25 b26=>rN<|ATodo.stop<|ImpX.lq [0,0,0,0,0,0,0,0] ⟨b21,b22,b23,b24,b25,b26,v20.name_.device_,v20.name_.rule_,v20.state_,v20.since_,v20.raises_,v20.shelved_,v20.up_,v20.fresh_,v20.aside_,v20.acks_,v20.waits_,h,J⟩ J J
      · refine have h := iteFb hc h; tS<|tS<|ATodo.cut (fun σ'=>∃ (c27 : Bool),alarm_life_lower_j3 p0x0 p1x0 c27 = some r ∧ σ' = ⟨95,[(0,.ptr b_0 0),(3,.ptr b1 0),(5,.bool (decide (p1x0.Kind = (2 : Int)))),(22,.bool c27)],[(b_0,.cells (cE1 p0x0 b_0x4 b_0x6 b_0x7 b_0x8 b_0x9 b_0x10)),(b_0x4,aE0 p0x0.raises_),(b_0x6,aE3 p0x0.up_),(b_0x7,aE3 p0x0.fresh_),(b_0x8,aE3 p0x0.aside_),(b_0x9,aE0 p0x0.acks_),(b_0x10,aE0 p0x0.waits_),(b1,.cells (cE0 p1x0))]⟩) ?_ ?_
        · refine tR<|rM J J<|rM J J<|ARun.guard_dt J J J (fun hc=>?_) (fun hc=>?_)
          · rw [andTd hc] at h
            exact rM J J<|rY J J J<|ARun.qv (q_nilCheck_ptr J) J<|rY J J J<|rF J J J<|rY J J J<|rL J J .p0 J J<|rY J J J<|ARun.qv (q_eql J J) J<|rT J J J<|rA J J<|rN<|ATodo.stop<|ImpX.lq [0,0,0,0,0,0,0,0] ⟨decide (p0x0.state_ = (2 : Int)),h,J⟩ J J
          · rw [andFd hc] at h
            exact rG J J J J<|rG J J J J<|rG J J J J<|rG J J J J<|rE J J J<|rA J J<|rN<|ATodo.stop<|ImpX.lq [0,0,0,0,0,0,0,0] ⟨false,h,J⟩ J J
        · rintro σ' ⟨c27, h, rfl⟩
          unfold alarm_life_lower_j3 at h
          refine ATodo.cut (fun σ'=>∃ (c28 : Bool),alarm_life_lower_j4 p0x0 p1x0 c28 = some r ∧ σ' = ⟨95,[(0,.ptr b_0 0),(3,.ptr b1 0),(5,.bool (decide (p1x0.Kind = (2 : Int)))),(22,.bool c28)],[(b_0,.cells (cE1 p0x0 b_0x4 b_0x6 b_0x7 b_0x8 b_0x9 b_0x10)),(b_0x4,aE0 p0x0.raises_),(b_0x6,aE3 p0x0.up_),(b_0x7,aE3 p0x0.fresh_),(b_0x8,aE3 p0x0.aside_),(b_0x9,aE0 p0x0.acks_),(b_0x10,aE0 p0x0.waits_),(b1,.cells (cE0 p1x0))]⟩) ?_ ?_
          · refine ATodo.cond J (fun hc=>?_) (fun hc=>?_)
            · exact have h := iteT hc h; tK<|ATodo.stop<|ImpX.lq [0,0,0,0,0,0,0,0] ⟨c27,h,J⟩ J J
            · refine have h := iteFb hc h; ATodo.cut (fun σ'=>∃ (c29 : Bool),alarm_life_lower_j5 p0x0 p1x0 c29 = some r ∧ σ' = ⟨95,[(0,.ptr b_0 0),(3,.ptr b1 0),(5,.bool (decide (p1x0.Kind = (2 : Int)))),(22,.bool c29)],[(b_0,.cells (cE1 p0x0 b_0x4 b_0x6 b_0x7 b_0x8 b_0x9 b_0x10)),(b_0x4,aE0 p0x0.raises_),(b_0x6,aE3 p0x0.up_),(b_0x7,aE3 p0x0.fresh_),(b_0x8,aE3 p0x0.aside_),(b_0x9,aE0 p0x0.acks_),(b_0x10,aE0 p0x0.waits_),(b1,.cells (cE0 p1x0))]⟩) ?_ ?_
              · refine tR<|rM J J<|ARun.qv (q_not_d J) J<|rM J J<|ARun.guard_dt J J J (fun hc=>?_) (fun hc=>?_)
                · rw [andTd hc] at h
                  exact rM J J<|rY J J J<|ARun.qv (q_nilCheck_ptr J) J<|rY J J J<|rF J J J<|rY J J J<|rL J J .p0 J J<|rY J J J<|ARun.qv (q_eql J J) J<|rT J J J<|rA J J<|rN<|ATodo.stop<|ImpX.lq [0,0,0,0,0,0,0,0] ⟨decide (p0x0.state_ = (3 : Int)),h,J⟩ J J
                · rw [andFd hc] at h
                  exact rG J J J J<|rG J J J J<|rG J J J J<|rG J J J J<|rE J J J<|rA J J<|rN<|ATodo.stop<|ImpX.lq [0,0,0,0,0,0,0,0] ⟨false,h,J⟩ J J
              · rintro σ' ⟨c29, h, rfl⟩
                unfold alarm_life_lower_j5 at h
                exact ATodo.stop<|ImpX.lq [0,0,0,0,0,0,0,0] ⟨c29,h,J⟩ J J
          · rintro σ' ⟨c28, h, rfl⟩
            unfold alarm_life_lower_j4 at h
            refine ATodo.cut (fun σ'=>∃ (b34 : Bk) (b37 : Bk) (b39 : Bk) (b41 : Bk) (b43 : Bk) (b45 : Bk) (q30 : Str) (q31 : Str) (n32 : Int) (n33 : Int) (l35 : List Int) (n36 : Int) (l38 : List Window) (l40 : List Window) (l42 : List Window) (l44 : List Int) (l46 : List Int),alarm_life_lower_j6 p1x0 q30 q31 n32 n33 l35 n36 l38 l40 l42 l44 l46 = some r ∧ σ' = ⟨95,[(0,.ptr b_0 0),(3,.ptr b1 0),(5,.bool (decide (p1x0.Kind = (2 : Int))))],[(b_0,.cells [.str q30,.str q31,I n32,I n33,.sl 1 b34 0 l35.length,I n36,.sl 2 b37 0 l38.length,.sl 2 b39 0 l40.length,.sl 2 b41 0 l42.length,.sl 1 b43 0 l44.length,.sl 1 b45 0 l46.length]),(b34,aE0 l35),(b37,aE3 l38),(b39,aE3 l40),(b41,aE3 l42),(b43,aE0 l44),(b45,aE0 l46),(b1,.cells (cE0 p1x0))]⟩) ?_ ?_
            · refine ATodo.cond J (fun hc=>?_) (fun hc=>?_)
              · exact have h := iteT hc h; tR<|rM J J<|rF J J J<|rL J J .p7 J J<|bndE h fun v47 e2 h=>t_call6 J (alarm_life_turn_c e2) (CoL.refl _) (.cons .p0 (.cons .p0 (.cons .p0 (.cons .p0 (.cons .p0 (.cons .p0 (.cons .p0 .nil))))))) (fun _ _ _ _ _ _=>J) J fun b48 b49 b50 b51 b52 b53=>rN<|ATodo.stop<|ImpX.lq [0,0,0,0,0,0,0,0] ⟨b48,b49,b50,b51,b52,b53,v47.name_.device_,v47.name_.rule_,v47.state_,v47.since_,v47.raises_,v47.shelved_,v47.up_,v47.fresh_,v47.aside_,v47.acks_,v47.waits_,h,J⟩ J J
              · refine have h := iteFb hc h; tS<|ATodo.cut (fun σ'=>∃ (c54 : Bool),alarm_life_lower_j7 p0x0 p1x0 c54 = some r ∧ σ' = ⟨95,[(0,.ptr b_0 0),(3,.ptr b1 0),(5,.bool (decide (p1x0.Kind = (2 : Int)))),(44,.bool c54)],[(b_0,.cells (cE1 p0x0 b_0x4 b_0x6 b_0x7 b_0x8 b_0x9 b_0x10)),(b_0x4,aE0 p0x0.raises_),(b_0x6,aE3 p0x0.up_),(b_0x7,aE3 p0x0.fresh_),(b_0x8,aE3 p0x0.aside_),(b_0x9,aE0 p0x0.acks_),(b_0x10,aE0 p0x0.waits_),(b1,.cells (cE0 p1x0))]⟩) ?_ ?_
                · refine tR<|rM J J<|ARun.qv (q_not_d J) J<|rM J J<|ARun.guard_dt J J J (fun hc=>?_) (fun hc=>?_)
                  · rw [andTd hc] at h
                    exact rM J J<|rY J J J<|ARun.qv (q_nilCheck_ptr J) J<|rY J J J<|rF J J J<|rY J J J<|rL J J .p0 J J<|rY J J J<|ARun.qv (q_eql J J) J<|rT J J J<|rA J J<|rN<|ATodo.stop<|ImpX.lq [0,0,0,0,0,0,0,0] ⟨decide (p0x0.state_ = (1 : Int)),h,J⟩ J J
                  · rw [andFd hc] at h
                    exact rG J J J J<|rG J J J J<|rG J J J J<|rG J J J J<|rE J J J<|rA J J<|rN<|ATodo.stop<|ImpX.lq [0,0,0,0,0,0,0,0] ⟨false,h,J⟩ J J
                · rintro σ' ⟨c54, h, rfl⟩
                  unfold alarm_life_lower_j7 at h
                  refine ATodo.cond J (fun hc=>?_) (fun hc=>?_)
                  · exact have h := iteT hc h; tR<|rM J J<|rF J J J<|rL J J .p7 J J<|bndE h fun v55 e3 h=>t_call6 J (alarm_life_turn_c e3) (CoL.refl _) (.cons .p0 (.cons .p0 (.cons .p0 (.cons .p0 (.cons .p0 (.cons .p0 (.cons .p0 .nil))))))) (fun _ _ _ _ _ _=>J) J fun b56 b57 b58 b59 b60 b61=>rN<|ATodo.stop<|ImpX.lq [0,0,0,0,0,0,0,0] ⟨b56,b57,b58,b59,b60,b61,v55.name_.device_,v55.name_.rule_,v55.state_,v55.since_,v55.raises_,v55.shelved_,v55.up_,v55.fresh_,v55.aside_,v55.acks_,v55.waits_,h,J⟩ J J
                  · refine have h := iteFb hc h; tSR<|rA J J<|rN<|ATodo.ret<|?_
                    obtain rfl := Option.some.inj h
                    exact ImpX.here ⟨_,.cons (.tmp _ _ J) .nil,_,.cons .p0 (.cons .p0 (.cons .p0 (.cons .p0 (.cons .p0 (.cons .p0 (.cons .p0 .nil)))))),⟨b_0x4,b_0x6,b_0x7,b_0x8,b_0x9,b_0x10,J,J⟩⟩
            · rintro σ' ⟨b34, b37, b39, b41, b43, b45, q30, q31, n32, n33, l35, n36, l38, l40, l42, l44, l46, h, rfl⟩
              unfold alarm_life_lower_j6 at h
              exact ATodo.stop<|ImpX.lq [0,0,0,0,0,0,0,0] ⟨b34,b37,b39,b41,b43,b45,q30,q31,n32,n33,l35,n36,l38,l40,l42,l44,l46,h,J⟩ J J
    · rintro σ' ⟨b7, b10, b12, b14, b16, b18, q3, q4, n5, n6, l8, n9, l11, l13, l15, l17, l19, h, rfl⟩
      unfold alarm_life_lower_j2 at h
      refine ATodo.blk<|tS<|tSR<|rM J J<|ARun.qv (q_not_d J) J<|rN<|ATodo.cut (fun σ'=>∃ (b62 : Bk) (b64 : Bk) (l63 : List Int) (l65 : List Int),alarm_life_lower_j8 q3 q4 n5 n6 l8 n9 l11 l13 l15 l63 l65 = some r ∧ σ' = ⟨95,[],[(b_0,.cells [.str q3,.str q4,I n5,I n6,.sl 1 b7 0 l8.length,I n9,.sl 2 b10 0 l11.length,.sl 2 b12 0 l13.length,.sl 2 b14 0 l15.length,.sl 1 b62 0 l63.length,.sl 1 b64 0 l65.length]),(b7,aE0 l8),(b10,aE3 l11),(b12,aE3 l13),(b14,aE3 l15),(b62,aE0 l63),(b64,aE0 l65)]⟩) ?_ ?_
      · refine ATodo.cond_d J (fun hc=>?_) (fun hc=>?_)
        · refine have h := iteT hc h; tS<|bndE h fun l66 e4 h=>ATodo.regionT (id := 11) (A := [0,0,2,6,14,0,32,96,254,511,1023,2047]) (H0 := [(b16,aE0 l17)]) (HH := fun β=>[((β 8),aE0 l66),(b_0,.cells [.str q3,.str q4,I n5,I n6,.sl 1 b7 0 l8.length,I n9,.sl 2 b10 0 l11.length,.sl 2 b12 0 l13.length,.sl 2 b14 0 l15.length,.sl 1 b16 0 l17.length,.sl 1 b18 0 l19.length]),(b7,aE0 l8),(b10,aE3 l11),(b12,aE3 l13),(b14,aE3 l15),(b18,aE0 l19),(b1,.cells (cE0 p1x0))]) 9 mixed J (by kernel_rfl) (by kernel_rfl) [⟨none,some 8,[],fun _=>(b16,aE0 l17),none,[]⟩,⟨some 8,none,[],fun b=>(b,aE0 l66),none,[]⟩] [8] J (by kernel_rfl) J (.cons .p5 .nil) (fun _=>J)<|AT.am 8 J J<|AM.qv (q_move J) J<|AM.qv (q_move J) J<|AM.qv (q_nilCheck_ptr J) J<|AM.qv (n_field_ptr J J) J<|AM.qv (q_load_ptr J J .p0 J) J<|AM.qv (n_field_ptr J J) J<|AM.qv (q_load_ptr J J .p6 J) J<|AM.buildSliceL (xs := ([p1x0.At] : List Int).map I) J J J J J J<|AM.nil<|AT.runD (V := fun b=>.sl 1 b 0 l66.length) (Ti := [(b16,aE0 l17)]) (Pi := fun b=>[(b,aE0 l66)]) (fun _=>J) (fun _=>J) (fun _ _=>J) J (fun _=>J) J J J ?_ ?_
          · exact t_append (g := I) J J J J J J J J (.list _) e4 (fun _=>.p0) J fun b67=>ARun.nil ⟨b67,_,J,J⟩
          refine AT.nilN (fun _=>J) fun β=>?_
          generalize β 8 = b67
          clear β
          refine ARun.qv (q_nilCheck_ptr J) J<|rF J J J<|n_store_ptr J J J J .p1 J J<|rN<|bndE h fun v68 e5 h=>bndE h fun l69 e6 h=>ATodo.regionT (id := 12) (A := [0,0,2,6,14,0,32,0,128,384,896,0,2048,6144,14336,30720,63488,130944,262016,524256,1048544,2097150,4194303,8388607,16777215]) (H0 := [(b18,aE0 l19)]) (HH := fun β=>[((β 21),aE0 l69),(b67,aE0 l66),(b_0,.cells [.str q3,.str q4,I n5,I n6,.sl 1 b7 0 l8.length,I n9,.sl 2 b10 0 l11.length,.sl 2 b12 0 l13.length,.sl 2 b14 0 l15.length,.sl 1 b67 0 l66.length,.sl 1 b18 0 l19.length]),(b7,aE0 l8),(b10,aE3 l11),(b12,aE3 l13),(b14,aE3 l15),(b1,.cells (cE0 p1x0))]) 22 mixed J (by kernel_rfl) (by kernel_rfl) [⟨none,some 21,[],fun _=>(b18,aE0 l19),none,[]⟩,⟨some 21,none,[],fun b=>(b,aE0 l69),none,[]⟩] [21] J (by kernel_rfl) J (.cons .p6 .nil) (fun _=>J)<|AT.am 21 J J<|AM.qv (q_move J) J<|AM.qv (q_move J) J<|AM.qv (q_nilCheck_ptr J) J<|AM.qv (n_field_ptr J J) J<|AM.qv (q_load_ptr J J .p1 J) J<|AM.qv (n_field_ptr J J) J<|AM.qv (q_load_ptr J J .p6 J) J<|AM.qv (q_move J) J<|AM.qv (q_nilCheck_ptr J) J<|AM.qv (n_field_ptr J J) J<|AM.qv (q_load_ptr J J .p1 J) J<|AM.qv (q_move J) J<|AM.qv (q_nilCheck_ptr J) J<|AM.qv (n_field_ptr J J) J<|AM.qv (q_load_ptr J J .p1 J) J<|AM.qv (t_len_sl J) J<|AM.qv (q_subw J J) J<|AM.qv (t_index_sl J J J e5) J<|AM.qv (t_load_aptr (g := I) J J (.inl .p2) e5 J) J<|AM.qv (q_subw J J) J<|AM.buildSliceL (xs := ([w64 (p1x0.At - v68)] : List Int).map I) J J J J J J<|AM.nil<|AT.runD (V := fun b=>.sl 1 b 0 l69.length) (Ti := [(b18,aE0 l19)]) (Pi := fun b=>[(b,aE0 l69)]) (fun _=>J) (fun _=>J) (fun _ _=>J) J (fun _=>J) J J J ?_ ?_
          · exact t_append (g := I) J J J J J J J J (.list _) e6 (fun _=>.p0) J fun b70=>ARun.nil ⟨b70,_,J,J⟩
          refine AT.nilN (fun _=>J) fun β=>?_
          generalize β 21 = b70
          clear β
          exact ARun.qv (q_nilCheck_ptr J) J<|rF J J J<|n_store_ptr J J J J .p2 J J<|rN<|ATodo.stop<|ImpX.lq [2,2,2,2,2,1,0] ⟨b67,b70,l66,l69,h,J⟩ J J
        · exact have h := iteF hc h; tK<|ATodo.stop<|ImpX.lq [0,0,0,0,0,0,0] ⟨b16,b18,l17,l19,h,J⟩ J J
      · rintro σ' ⟨b62, b64, l63, l65, h, rfl⟩
        unfold alarm_life_lower_j8 at h
        refine tSR<|rA J J<|rN<|ATodo.ret<|?_
        obtain rfl := Option.some.inj h
        exact ImpX.here ⟨_,.cons (.tmp _ _ J) .nil,_,.cons .p0 (.cons .p0 (.cons .p0 (.cons .p0 (.cons .p0 (.cons .p0 (.cons .p0 .nil)))))),⟨b7,b10,b12,b14,b62,b64,J,J⟩⟩

theorem alarm_life_follow_c [GI : GTab] {b_0 : Bk} {b_0x4 : Bk} {b_0x6 : Bk} {b_0x7 : Bk} {b_0x8 : Bk} {b_0x9 : Bk} {b_0x10 : Bk} {p0x0 : Alarm_life} {p1x0 : Signal} {r : Int × Alarm_life} (h : alarm_life_follow p0x0 p1x0 = some r) : ACall Tryz.prog 153 [.ptr b_0 0,Signal.av p1x0] [(b_0,.cells (cE1 p0x0 b_0x4 b_0x6 b_0x7 b_0x8 b_0x9 b_0x10)),(b_0x4,aE0 p0x0.raises_),(b_0x6,aE3 p0x0.up_),(b_0x7,aE3 p0x0.fresh_),(b_0x8,aE3 p0x0.aside_),(b_0x9,aE0 p0x0.acks_),(b_0x10,aE0 p0x0.waits_)] (T6 (fun c_0x4 c_0x6 c_0x7 c_0x8 c_0x9 c_0x10=>[(b_0,.cells (cE1 r.2 c_0x4 c_0x6 c_0x7 c_0x8 c_0x9 c_0x10)),(c_0x4,aE0 r.2.raises_),(c_0x6,aE3 r.2.up_),(c_0x7,aE3 r.2.fresh_),(c_0x8,aE3 r.2.aside_),(c_0x9,aE0 r.2.acks_),(c_0x10,aE0 r.2.waits_)]) (fun c_0x4 c_0x6 c_0x7 c_0x8 c_0x9 c_0x10=>I r.1)) := by
  unfold alarm_life_follow at h
  refine ACall.lessH ?_
  refine ACall.bodyN Tryz.func153 J Tryz.ntmps153 Tryz.results153 J J ?_
  refine tSR<|n_box J J J J fun b1=>rA J J<|rN<|tS<|tSR<|rF J J J<|rL J J .p0 J J<|rN<|ATodo.block<|tSR<|ARun.qv (q_eql J J) J<|rA J J<|rN<|ATodo.cond_d J (fun hc=>?_) (fun hc=>?_)
  · refine have h := iteT hc h; tS<|tS<|ATodo.cut (fun σ'=>∃ (c2 : Bool),alarm_life_follow_j1 p0x0 p1x0 c2 = some r ∧ σ' = ⟨96,[(0,.ptr b_0 0),(3,.ptr b1 0),(20,.bool c2)],[(b_0,.cells (cE1 p0x0 b_0x4 b_0x6 b_0x7 b_0x8 b_0x9 b_0x10)),(b_0x4,aE0 p0x0.raises_),(b_0x6,aE3 p0x0.up_),(b_0x7,aE3 p0x0.fresh_),(b_0x8,aE3 p0x0.aside_),(b_0x9,aE0 p0x0.acks_),(b_0x10,aE0 p0x0.waits_),(b1,.cells (cE0 p1x0))]⟩) ?_ ?_
    · refine tR<|rM J J<|ARun.qv (q_nilCheck_ptr J) J<|rF J J J<|rL J J .p1 J J<|ARun.qv (q_eql J J) J<|rM J J<|ARun.guard_df J J J (fun hc=>?_) (fun hc=>?_)
      · rw [orFd hc] at h
        exact rM J J<|rY J J J<|ARun.qv (q_nilCheck_ptr J) J<|rY J J J<|rF J J J<|rY J J J<|rL J J .p1 J J<|rY J J J<|ARun.qv (q_eql J J) J<|rE J J J<|rN<|ATodo.stop<|ImpX.lq [1,1,1,1,1,1,1,0] ⟨decide (p0x0.state_ = (2 : Int)),h,J⟩ J J
      · rw [orTd hc] at h
        exact rG J J J J<|rG J J J J<|rG J J J J<|rG J J J J<|rT J J J<|rN<|ATodo.stop<|ImpX.lq [1,1,1,1,1,1,1,0] ⟨true,h,J⟩ J J
    · rintro σ' ⟨c2, h, rfl⟩
      unfold alarm_life_follow_j1 at h
      refine ATodo.cond J (fun hc=>?_) (fun hc=>?_)
      · refine have h := iteT hc h; tSR<|rA J J<|rN<|ATodo.ret<|?_
        obtain rfl := Option.some.inj h
        exact ImpX.here ⟨_,.cons (.tmp _ _ J) .nil,_,.cons .p0 (.cons .p0 (.cons .p0 (.cons .p0 (.cons .p0 (.cons .p0 (.cons .p0 .nil)))))),⟨b_0x4,b_0x6,b_0x7,b_0x8,b_0x9,b_0x10,J,J⟩⟩
      · refine have h := iteFb hc h; tK<|tSR<|rM J J<|rF J J J<|rL J J .p7 J J<|bndE h fun v3 e1 h=>t_call6 J (alarm_life_turn_c e1) (CoL.refl _) (.cons .p0 (.cons .p0 (.cons .p0 (.cons .p0 (.cons .p0 (.cons .p0 (.cons .p0 .nil))))))) (fun _ _ _ _ _ _=>J) J fun b4 b5 b6 b7 b8 b9=>rN<|tS<|bndE h fun l10 e2 h=>ATodo.regionT (id := 6) (A := [0,0,2,6,14,0,32,96,254,511,1023,2047]) (H0 := [(b4,aE0 v3.raises_)]) (HH := fun β=>[((β 8),aE0 l10),(b_0,.cells (cE1 v3 b4 b5 b6 b7 b8 b9)),(b5,aE3 v3.up_),(b6,aE3 v3.fresh_),(b7,aE3 v3.aside_),(b8,aE0 v3.acks_),(b9,aE0 v3.waits_),(b1,.cells (cE0 p1x0))]) 9 mixed J (by kernel_rfl) (by kernel_rfl) [⟨none,some 8,[],fun _=>(b4,aE0 v3.raises_),none,[]⟩,⟨some 8,none,[],fun b=>(b,aE0 l10),none,[]⟩] [8] J (by kernel_rfl) J (.cons .p1 .nil) (fun _=>J)<|AT.am 8 J J<|AM.qv (q_move J) J<|AM.qv (q_move J) J<|AM.qv (q_nilCheck_ptr J) J<|AM.qv (n_field_ptr J J) J<|AM.qv (q_load_ptr J J .p0 J) J<|AM.qv (n_field_ptr J J) J<|AM.qv (q_load_ptr J J .p6 J) J<|AM.buildSliceL (xs := ([p1x0.At] : List Int).map I) J J J J J J<|AM.nil<|AT.runD (V := fun b=>.sl 1 b 0 l10.length) (Ti := [(b4,aE0 v3.raises_)]) (Pi := fun b=>[(b,aE0 l10)]) (fun _=>J) (fun _=>J) (fun _ _=>J) J (fun _=>J) J J J ?_ ?_
        · exact t_append (g := I) J J J J J J J J (.list _) e2 (fun _=>.p0) J fun b11=>ARun.nil ⟨b11,_,J,J⟩
        refine AT.nilN (fun _=>J) fun β=>?_
        generalize β 8 = b11
        clear β
        refine ARun.qv (q_nilCheck_ptr J) J<|rF J J J<|n_store_ptr J J J J .p1 J J<|rN<|tSR<|rA J J<|rN<|ATodo.ret<|?_
        obtain rfl := Option.some.inj h
        exact ImpX.here ⟨_,.cons (.tmp _ _ J) .nil,_,.cons .p1 (.cons .p0 (.cons .p0 (.cons .p0 (.cons .p0 (.cons .p0 (.cons .p0 .nil)))))),⟨b11,b5,b6,b7,b8,b9,J,J⟩⟩
  · refine have h := iteF hc h; tS<|tSR<|ARun.qv (q_eql J J) J<|rA J J<|rN<|ATodo.cut (fun σ'=>∃ (c12 : Bool),alarm_life_follow_j2 p0x0 p1x0 c12 = some r ∧ σ' = ⟨96,[(0,.ptr b_0 0),(3,.ptr b1 0),(6,I p1x0.Kind),(36,.bool c12)],[(b_0,.cells (cE1 p0x0 b_0x4 b_0x6 b_0x7 b_0x8 b_0x9 b_0x10)),(b_0x4,aE0 p0x0.raises_),(b_0x6,aE3 p0x0.up_),(b_0x7,aE3 p0x0.fresh_),(b_0x8,aE3 p0x0.aside_),(b_0x9,aE0 p0x0.acks_),(b_0x10,aE0 p0x0.waits_),(b1,.cells (cE0 p1x0))]⟩) ?_ ?_
    · refine ATodo.cond_d J (fun hc=>?_) (fun hc=>?_)
      · exact have h := iteT hc h; tK<|ATodo.stop<|ImpX.lq [1,1,1,1,1,1,1,0] ⟨decide (p1x0.Kind = (2 : Int)),h,J⟩ J J
      · exact have h := iteF hc h; tR<|ARun.qv (q_eql J J) J<|rA J J<|rN<|ATodo.stop<|ImpX.lq [1,1,1,1,1,1,1,0] ⟨decide (p1x0.Kind = (3 : Int)),h,J⟩ J J
    · rintro σ' ⟨c12, h, rfl⟩
      unfold alarm_life_follow_j2 at h
      refine ATodo.cond J (fun hc=>?_) (fun hc=>?_)
      · refine have h := iteT hc h; tSR<|rM J J<|ARun.qv (q_load_ptr_all J J .p7 J) J<|bndE h fun v13 e3 h=>t_call6 J (alarm_life_lower_c e3) (CoL.refl _) (.cons .p0 (.cons .p0 (.cons .p0 (.cons .p0 (.cons .p0 (.cons .p0 (.cons .p0 .nil))))))) (fun _ _ _ _ _ _=>J) J fun b14 b15 b16 b17 b18 b19=>rA J J<|rN<|ATodo.ret<|?_
        obtain rfl := Option.some.inj h
        exact ImpX.here ⟨_,.cons (.tmp _ _ J) .nil,_,.cons .p0 (.cons .p0 (.cons .p0 (.cons .p0 (.cons .p0 (.cons .p0 (.cons .p0 .nil)))))),⟨b14,b15,b16,b17,b18,b19,J,J⟩⟩
      · refine have h := iteFb hc h; tSR<|ARun.qv (q_eql J J) J<|rA J J<|rN<|ATodo.cond_d J (fun hc=>?_) (fun hc=>?_)
        · refine have h := iteT hc h; tS<|tS<|ATodo.regionM (id := 12) (A := [0,1,3,7,0,16,63]) 7 mixed J (by kernel_rfl) (by kernel_rfl)<|AM.qv (q_move J) J<|AM.qv (q_nilCheck_ptr J) J<|AM.qv (n_field_ptr J J) J<|AM.qv (q_load_ptr J J .p0 J) J<|AM.qv (n_field_ptr J J) J<|AM.qv (q_load_ptr J J .p7 J) J<|AM.qv (q_gtr J J) J<|AM.nil<|rN<|ATodo.cond_d J (fun hc=>?_) (fun hc=>?_)
          · refine have h := iteT hc h; tSR<|rA J J<|rN<|ATodo.ret<|?_
            obtain rfl := Option.some.inj h
            exact ImpX.here ⟨_,.cons (.tmp _ _ J) .nil,_,.cons .p0 (.cons .p0 (.cons .p0 (.cons .p0 (.cons .p0 (.cons .p0 (.cons .p0 .nil)))))),⟨b_0x4,b_0x6,b_0x7,b_0x8,b_0x9,b_0x10,J,J⟩⟩
          · refine have h := iteF hc h; tK<|tSR<|rM J J<|rF J J J<|rL J J .p7 J J<|ARun.qv (q_nilCheck_ptr J) J<|rF J J J<|n_store_ptr J J J J .p0 J J<|rN<|tS<|bndE h fun l20 e4 h=>ATodo.regionT (id := 15) (A := [0,0,2,6,14,0,32,0,128,480,992,2046,4095,8191,16383]) (H0 := [(b_0x8,aE3 p0x0.aside_)]) (HH := fun β=>[((β 11),aE3 l20),(b_0,.cells [.str p0x0.name_.device_,.str p0x0.name_.rule_,I p0x0.state_,I p0x0.since_,.sl 1 b_0x4 0 p0x0.raises_.length,I p1x0.Until,.sl 2 b_0x6 0 p0x0.up_.length,.sl 2 b_0x7 0 p0x0.fresh_.length,.sl 2 b_0x8 0 p0x0.aside_.length,.sl 1 b_0x9 0 p0x0.acks_.length,.sl 1 b_0x10 0 p0x0.waits_.length]),(b_0x4,aE0 p0x0.raises_),(b_0x6,aE3 p0x0.up_),(b_0x7,aE3 p0x0.fresh_),(b_0x9,aE0 p0x0.acks_),(b_0x10,aE0 p0x0.waits_),(b1,.cells (cE0 p1x0))]) 12 mixed J (by kernel_rfl) (by kernel_rfl) [⟨none,some 11,[],fun _=>(b_0x8,aE3 p0x0.aside_),none,[]⟩,⟨some 11,none,[],fun b=>(b,aE3 l20),none,[]⟩] [11] J (by kernel_rfl) J (.cons .p4 .nil) (fun _=>J)<|AT.am 11 J J<|AM.qv (q_move J) J<|AM.qv (q_move J) J<|AM.qv (q_nilCheck_ptr J) J<|AM.qv (n_field_ptr J J) J<|AM.qv (q_load_ptr J J .p0 J) J<|AM.qv (n_field_ptr J J) J<|AM.qv (q_load_ptr J J .p6 J) J<|AM.qv (n_field_ptr J J) J<|AM.qv (q_load_ptr J J .p6 J) J<|AM.qv (n_build J J J J J) J<|AM.buildSliceL (xs := ([(⟨p1x0.At,p1x0.Until⟩ : Window)]).map Window.av) J J J J J J<|AM.nil<|AT.runD (V := fun b=>.sl 2 b 0 l20.length) (Ti := [(b_0x8,aE3 p0x0.aside_)]) (Pi := fun b=>[(b,aE3 l20)]) (fun _=>J) (fun _=>J) (fun _ _=>J) J (fun _=>J) J J J ?_ ?_
            · exact t_append (g := Window.av) J J J J J J J J (.list _) e4 (fun _=>.p0) J fun b21=>ARun.nil ⟨b21,_,J,J⟩
            refine AT.nilN (fun _=>J) fun β=>?_
            generalize β 11 = b21
            clear β
            refine ARun.qv (q_nilCheck_ptr J) J<|rF J J J<|n_store_ptr J J J J .p1 J J<|rN<|tSR<|rA J J<|rN<|ATodo.ret<|?_
            obtain rfl := Option.some.inj h
            exact ImpX.here ⟨_,.cons (.tmp _ _ J) .nil,_,.cons .p1 (.cons .p1 (.cons .p1 (.cons .p1 (.cons .p0 (.cons .p0 (.cons .p0 .nil)))))),⟨b_0x4,b_0x6,b_0x7,b21,b_0x9,b_0x10,J,J⟩⟩
        · refine have h := iteF hc h; tK<|ATodo.blk<|tS<|tS<|ATodo.regionM (id := 17) (A := [0,1,3,7,0,16,63]) 7 mixed J (by kernel_rfl) (by kernel_rfl)<|AM.qv (q_move J) J<|AM.qv (q_nilCheck_ptr J) J<|AM.qv (n_field_ptr J J) J<|AM.qv (q_load_ptr J J .p0 J) J<|AM.qv (n_field_ptr J J) J<|AM.qv (q_load_ptr J J .p7 J) J<|AM.qv (q_leq J J) J<|AM.nil<|rN<|ATodo.cond_d J (fun hc=>?_) (fun hc=>?_)
          · refine have h := iteT hc h; tSR<|rA J J<|rN<|ATodo.ret<|?_
            obtain rfl := Option.some.inj h
            exact ImpX.here ⟨_,.cons (.tmp _ _ J) .nil,_,.cons .p0 (.cons .p0 (.cons .p0 (.cons .p0 (.cons .p0 (.cons .p0 (.cons .p0 .nil)))))),⟨b_0x4,b_0x6,b_0x7,b_0x8,b_0x9,b_0x10,J,J⟩⟩
          · refine have h := iteF hc h; tK<|tSR<|rM J J<|rF J J J<|rL J J .p7 J J<|ARun.qv (q_nilCheck_ptr J) J<|rF J J J<|n_store_ptr J J J J .p0 J J<|rN<|tS<|ATodo.regionM (id := 20) (A := [0,1,3,7,0,16,48,112,240,496,0,1024,4095,8191,16383]) 14 mixed J (by kernel_rfl) (by kernel_rfl)<|AM.qv (q_move J) J<|AM.qv (q_nilCheck_ptr J) J<|AM.qv (n_field_ptr J J) J<|AM.qv (q_load_ptr J J .p0 J) J<|AM.qv (q_move J) J<|AM.qv (q_nilCheck_ptr J) J<|AM.qv (n_field_ptr J J) J<|AM.qv (q_load_ptr J J .p0 J) J<|AM.qv (t_len_sl J) J<|AM.qv (q_subw J J) J<|AM.qv (n_field_ptr J J) J<|AM.qv (q_load_ptr J J .p7 J) J<|bndE h fun v22 e5 h=>AM.qv (t_index_sl J J J e5) J<|AM.qv (t_field_aptr J J) J<|AM.nil<|t_store_aptr1 (g := Window.av) (el' := (⟨v22.From,p1x0.At⟩ : Window)) J J J J e5 J .p4 J<|ARun.ghost<|ImpX.eqs (s := 85) (av' := .sl 2 b_0x8 0 (p0x0.aside_.set (w64 ((p0x0.aside_.length : Int) - (1 : Int))).toNat (⟨v22.From,p1x0.At⟩ : Window)).length) J (by rw [List.length_set])<|ImpX.here<|ARun.ghost<|ImpX.eqs (s := 89) (av' := .sl 2 b_0x8 0 (p0x0.aside_.set (w64 ((p0x0.aside_.length : Int) - (1 : Int))).toNat (⟨v22.From,p1x0.At⟩ : Window)).length) J (by rw [List.length_set])<|ImpX.here<|ARun.ghost<|ImpX.eqBox (j := 8) (av' := .sl 2 b_0x8 0 (p0x0.aside_.set (w64 ((p0x0.aside_.length : Int) - (1 : Int))).toNat (⟨v22.From,p1x0.At⟩ : Window)).length) .p0 J (by rw [List.length_set]) J<|ImpX.here<|rN<|tSR<|rA J J<|rN<|ATodo.ret<|?_
            obtain rfl := Option.some.inj h
            exact ImpX.here ⟨_,.cons (.tmp _ _ J) .nil,_,.cons .p0 (.cons .p0 (.cons .p0 (.cons .p0 (.cons .p0 (.cons .p0 (.cons .p0 .nil)))))),⟨b_0x4,b_0x6,b_0x7,b_0x8,b_0x9,b_0x10,J,J⟩⟩

end Go.Proofs.YtifmjkaghhkhfaaGreatDoor

