/- The code computes the plain functions: proofs written by shal.py. -/
import Derived.Test.YtkggljololbmiaaGreatDoorSerP
import Derived.Test.YtkggljololbmiaaGreatDoorLib
set_option maxHeartbeats 4000000
set_option maxRecDepth 100000
set_option linter.unusedVariables false
set_option linter.unusedSimpArgs false
namespace Go.Proofs.YtkggljololbmiaaGreatDoor
open Go Go.Eng Go.Proofs Go.Beacon
attribute [local irreducible] ARun ATodo AQ QV ACall ImpX AWp AM
abbrev lE0 (xs : List Int) : AV := .list 1 (xs.map I)
abbrev lE1 (xs : List Str) : AV := .list 1 (xs.map AV.str)
abbrev aE2 (xs : List PropType) : Ob := .arr 4 (xs.map PropType.av)
abbrev aE3 (xs : List Model) : Ob := .arr 3 (xs.map Model.av)
abbrev lE3 (xs : List Model) : AV := .list 3 (xs.map Model.av)
abbrev lE2 (xs : List PropType) : AV := .list 4 (xs.map PropType.av)
abbrev cE0 (x : PropType) : List AV := [.str x.Name,I x.Kind,I x.Low,I x.High]
abbrev aE1 (xs : List Str) : Ob := .arr 1 (xs.map AV.str)
theorem Below_c [GI : GTab] {p0x0 : Int} {p1x0 : Int} {r : Int} (h : Below p0x0 p1x0 = some r) : Pu Tryz.prog 50 [I p0x0,I p1x0] (I r) := by
  unfold Below at h
  refine ACall.bodyN Tryz.func50 J Tryz.ntmps50 Tryz.results50 J J ?_
  refine tSR<|rA J J<|rN<|tS<|tSR<|rM J J<|ARun.qv (q_lss J J) J<|rN<|ATodo.cond_d J (fun hc=>?_) (fun hc=>?_)
  · refine have h := iteT hc h; tSR<|rA J J<|rN<|ATodo.ret<|?_
    obtain rfl := Option.some.inj h
    exact ImpX.here ⟨_,.cons (.tmp _ _ J) .nil,J⟩
  · refine have h := iteF hc h; tK<|tSR<|rM J J<|rM J J<|bndE h fun n1 e1 h=>ARun.qv (t_remS J J e1) J<|rA J J<|rN<|tS<|tSR<|rM J J<|ARun.qv (q_lss J J) J<|rN<|ATodo.cut (fun σ'=>∃ (n2 : Int),Below_j1 n2 = some r ∧ σ' = ⟨16,[(0,I n2)],[]⟩) ?_ ?_
    · refine ATodo.cond_d J (fun hc=>?_) (fun hc=>?_)
      · exact have h := iteT hc h; tR<|rM J J<|rM J J<|ARun.qv (q_addw J J) J<|rA J J<|rN<|ATodo.stop<|ImpX.lq [] ⟨w64 (n1 + p1x0),h,J⟩ J J
      · exact have h := iteF hc h; tK<|ATodo.stop<|ImpX.lq [] ⟨n1,h,J⟩ J J
    · rintro σ' ⟨n2, h, rfl⟩
      unfold Below_j1 at h
      refine tSR<|rM J J<|rA J J<|rN<|ATodo.ret<|?_
      obtain rfl := Option.some.inj h
      exact ImpX.here ⟨_,.cons (.tmp _ _ J) .nil,J⟩

theorem Stream_Next_c [GI : GTab] {b_0 : Bk} {p0x0 : Fleetmake_Stream} {p1x0 : Int} {r : Int × Fleetmake_Stream} (h : Stream_Next p0x0 p1x0 = some r) : ACall Tryz.prog 9 [.ptr b_0 0,I p1x0] [(b_0,.cells [lE0 p0x0.L,I p0x0.at_])] (T0 ([(b_0,.cells [lE0 r.2.L,I r.2.at_])]) (I r.1)) := by
  unfold Stream_Next at h
  refine ACall.lessH ?_
  refine ACall.bodyN Tryz.func9 J Tryz.ntmps9 Tryz.results9 J J ?_
  refine tSR<|rA J J<|rN<|tSR<|rM J J<|ARun.qv (q_nilCheck_ptr J) J<|rF J J J<|rL J J .p0 J J<|ARun.qv (q_addw J J) J<|ARun.qv (q_nilCheck_ptr J) J<|rF J J J<|n_store_ptr J J J J .p0 J J<|rN<|tS<|tSR<|rM J J<|ARun.qv (q_nilCheck_ptr J) J<|rF J J J<|rL J J .p0 J J<|ARun.qv (t_len J) J<|ARun.qv (q_eql J J) J<|rN<|ATodo.cond_d J (fun hc=>?_) (fun hc=>?_)
  · refine have h := iteT hc h; tSR<|rM J J<|ARun.qv (q_nilCheck_ptr J) J<|rF J J J<|rL J J .p0 J J<|ARun.qv (q_mulw J J) J<|rM J J<|bndE h fun v1 e1 h=>r_callp J (Below_c e1) (CoL.refl _) J<|rA J J<|rN<|ATodo.ret<|?_
    obtain rfl := Option.some.inj h
    exact ImpX.here ⟨_,.cons (.tmp _ _ J) .nil,_,.cons .p0 .nil,⟨J,J⟩⟩
  · refine have h := iteF hc h; tK<|tS<|ATodo.regionM (id := 4) (A := [0,1,3,7,15,0,32,96,224,480,1023,2047]) 12 mixed J (by kernel_rfl) (by kernel_rfl)<|AM.qv (q_move J) J<|AM.qv (q_nilCheck_ptr J) J<|AM.qv (n_field_ptr J J) J<|AM.qv (q_load_ptr J J .p0 J) J<|AM.qv (q_subw J J) J<|AM.qv (q_move J) J<|AM.qv (q_nilCheck_ptr J) J<|AM.qv (n_field_ptr J J) J<|AM.qv (q_load_ptr J J .p0 J) J<|AM.qv (t_len J) J<|bndE h fun n2 e2 h=>AM.qv (t_remS J J e2) J<|AM.qv (q_assign J) J<|AM.nil<|rN<|tS<|ATodo.regionM (id := 5) (A := [0,1,3,7,15,0,32,96,224,480,1023,2047]) 12 mixed J (by kernel_rfl) (by kernel_rfl)<|AM.qv (q_move J) J<|AM.qv (q_nilCheck_ptr J) J<|AM.qv (n_field_ptr J J) J<|AM.qv (q_load_ptr J J .p0 J) J<|AM.qv (q_subw J J) J<|AM.qv (q_move J) J<|AM.qv (q_nilCheck_ptr J) J<|AM.qv (n_field_ptr J J) J<|AM.qv (q_load_ptr J J .p0 J) J<|AM.qv (t_len J) J<|bndE h fun n3 e3 h=>AM.qv (t_quoS J J e3) J<|AM.qv (q_assign J) J<|AM.nil<|rN<|tSR<|rM J J<|ARun.qv (q_nilCheck_ptr J) J<|rF J J J<|rL J J .p0 J J<|rM J J<|bndE h fun v4 e4 h=>ARun.qv (t_index J J J e4 J J) J<|ARun.qv (q_load_rptr J J J) J<|bndE h fun v5 e5 h=>r_callp J (Below_c e5) (CoL.refl _) J<|rM J J<|rM J J<|ARun.qv (q_addw J J) J<|ARun.qv (q_mulw J J) J<|ARun.qv (q_addw J J) J<|rM J J<|bndE h fun v6 e6 h=>r_callp J (Below_c e6) (CoL.refl _) J<|rA J J<|rN<|ATodo.ret<|?_
    obtain rfl := Option.some.inj h
    exact ImpX.here ⟨_,.cons (.tmp _ _ J) .nil,_,.cons .p0 .nil,⟨J,J⟩⟩

theorem Stream_Some_c [GI : GTab] {b_0 : Bk} {p0x0 : Fleetmake_Stream} {p1x0 : List Str} {r : Str × Fleetmake_Stream} (h : Stream_Some p0x0 p1x0 = some r) : ACall Tryz.prog 7 [.ptr b_0 0,lE1 p1x0] [(b_0,.cells [lE0 p0x0.L,I p0x0.at_])] (T0 ([(b_0,.cells [lE0 r.2.L,I r.2.at_])]) (.str r.1)) := by
  unfold Stream_Some at h
  refine ACall.lessH ?_
  refine ACall.bodyN Tryz.func7 J Tryz.ntmps7 Tryz.results7 J J ?_
  refine tSR<|rA J J<|rN<|tSR<|rM J J<|rM J J<|rM J J<|ARun.qv (t_len J) J<|bndE h fun v1 e1 h=>t_call0 J (Stream_Next_c e1) (CoL.refl _) (.cons .p0 .nil) J J<|bndE h fun v2 e2 h=>ARun.qv (t_index J J J e2 J J) J<|ARun.qv (q_load_rptr J J J) J<|rA J J<|rN<|ATodo.ret<|?_
  obtain rfl := Option.some.inj h
  exact ImpX.here ⟨_,.cons (.tmp _ _ J) .nil,_,.cons .p0 .nil,⟨J,J⟩⟩

theorem Stream_RightKinds_c [GI : GTab] {b_0 : Bk} {p0x0 : Fleetmake_Stream} {r : (Model × Model) × Fleetmake_Stream} (h : Stream_RightKinds p0x0 = some r) : ACall Tryz.prog 47 [.ptr b_0 0] [(b_0,.cells [lE0 p0x0.L,I p0x0.at_])] (T3 (fun d_0 d_0x2 d_0x5=>[(b_0,.cells [lE0 r.2.L,I r.2.at_]),((⟨some d_0,2⟩ : Bk),.cells [.str r.1.1.Key,.str r.1.1.Prefix,.sl 4 d_0x2 0 r.1.1.Props.length,.str r.1.2.Key,.str r.1.2.Prefix,.sl 4 d_0x5 0 r.1.2.Props.length]),(d_0x2,aE2 r.1.1.Props),(d_0x5,aE2 r.1.2.Props)]) (fun d_0 d_0x2 d_0x5=>.sl 3 (⟨some d_0,2⟩ : Bk) 0 2)) := by
  unfold Stream_RightKinds at h
  refine ACall.lessH ?_
  refine ACall.bodyN Tryz.func47 J Tryz.ntmps47 Tryz.results47 J J ?_
  refine tSR<|rA J J<|rN<|tSR<|ARun.qv (n_build J J J J J) J<|ARun.qv (n_build J J J J J) J<|ARun.qv (n_build J J J J J) J<|n_buildSlice J J J J J J fun b1=>ARun.qv (n_build J J J J J) J<|rM J J<|n_buildSliceL (xs := ([([65,66,67] : Str),([88,89] : Str),([90,90,90,90] : Str)]).map AV.str) J J J J J J<|bndE h fun v2 e1 h=>t_call0 J (Stream_Some_c e1) (CoL.refl _) (.cons .p1 .nil) J J<|ARun.qv (n_build J J J J J) J<|n_buildSlice J J J J J J fun b3=>ARun.qv (n_build J J J J J) J<|n_buildSliceM (xs := [.agg [.str ([109,97] : Str),.str ([65,66] : Str),.sl 4 b1 0 [(⟨([97] : Str),(2 : Int),(-5 : Int),(50 : Int)⟩ : PropType),(⟨([98] : Str),(3 : Int),(0 : Int),(0 : Int)⟩ : PropType),(⟨([102,97,110,46,111,110] : Str),(1 : Int),(0 : Int),(0 : Int)⟩ : PropType)].length],.agg [.str ([109,98] : Str),.str v2.1,.sl 4 b3 0 [(⟨([97] : Str),(1 : Int),(0 : Int),(0 : Int)⟩ : PropType)].length]]) J J J J J J fun m4=>ARun.ghost<|ImpX.arrCells .p0 J J<|ImpX.here<|?_
  generalize e2 : (⟨some m4,2⟩ : Bk) = b5
  refine rA J J<|rN<|ATodo.ret<|?_
  obtain rfl := Option.some.inj h
  subst e2
  exact ImpX.here ⟨_,.cons (.tmp _ _ J) .nil,_,.cons .p2 (.cons .p0 (.cons .p1 (.cons .p0 .nil))),⟨m4,b1,b3,J,J⟩⟩

theorem Stream_Flip_c [GI : GTab] {b_0 : Bk} {p0x0 : Fleetmake_Stream} {p1x0 : Int} {r : Bool × Fleetmake_Stream} (h : Stream_Flip p0x0 p1x0 = some r) : ACall Tryz.prog 48 [.ptr b_0 0,I p1x0] [(b_0,.cells [lE0 p0x0.L,I p0x0.at_])] (T0 ([(b_0,.cells [lE0 r.2.L,I r.2.at_])]) (.bool r.1)) := by
  unfold Stream_Flip at h
  refine ACall.lessH ?_
  refine ACall.bodyN Tryz.func48 J Tryz.ntmps48 Tryz.results48 J J ?_
  refine tSR<|rA J J<|rN<|tSR<|rM J J<|rM J J<|bndE h fun v1 e1 h=>t_call0 J (Stream_Next_c e1) (CoL.refl _) (.cons .p0 .nil) J J<|ARun.qv (q_eql J J) J<|rA J J<|rN<|ATodo.ret<|?_
  obtain rfl := Option.some.inj h
  exact ImpX.here ⟨_,.cons (.tmp _ _ J) .nil,_,.cons .p0 .nil,⟨J,J⟩⟩

theorem Stream_Pick_c [GI : GTab] {b_0 : Bk} {p0x0 : Fleetmake_Stream} {p1x0 : List Int} {r : Int × Fleetmake_Stream} (h : Stream_Pick p0x0 p1x0 = some r) : ACall Tryz.prog 8 [.ptr b_0 0,lE0 p1x0] [(b_0,.cells [lE0 p0x0.L,I p0x0.at_])] (T0 ([(b_0,.cells [lE0 r.2.L,I r.2.at_])]) (I r.1)) := by
  unfold Stream_Pick at h
  refine ACall.lessH ?_
  refine ACall.bodyN Tryz.func8 J Tryz.ntmps8 Tryz.results8 J J ?_
  refine tSR<|rA J J<|rN<|tSR<|rM J J<|rM J J<|rM J J<|ARun.qv (t_len J) J<|bndE h fun v1 e1 h=>t_call0 J (Stream_Next_c e1) (CoL.refl _) (.cons .p0 .nil) J J<|bndE h fun v2 e2 h=>ARun.qv (t_index J J J e2 J J) J<|ARun.qv (q_load_rptr J J J) J<|rA J J<|rN<|ATodo.ret<|?_
  obtain rfl := Option.some.inj h
  exact ImpX.here ⟨_,.cons (.tmp _ _ J) .nil,_,.cons .p0 .nil,⟨J,J⟩⟩

theorem Stream_Range_c [GI : GTab] {b_0 : Bk} {p0x0 : Fleetmake_Stream} {p1x0 : Int} {p2x0 : Int} {r : Int × Fleetmake_Stream} (h : Stream_Range p0x0 p1x0 p2x0 = some r) : ACall Tryz.prog 21 [.ptr b_0 0,I p1x0,I p2x0] [(b_0,.cells [lE0 p0x0.L,I p0x0.at_])] (T0 ([(b_0,.cells [lE0 r.2.L,I r.2.at_])]) (I r.1)) := by
  unfold Stream_Range at h
  refine ACall.lessH ?_
  refine ACall.bodyN Tryz.func21 J Tryz.ntmps21 Tryz.results21 J J ?_
  refine tSR<|rA J J<|rN<|tS<|tSR<|rM J J<|rM J J<|ARun.qv (q_lss J J) J<|rN<|ATodo.cond_d J (fun hc=>?_) (fun hc=>?_)
  · refine have h := iteT hc h; tSR<|rM J J<|rA J J<|rN<|ATodo.ret<|?_
    obtain rfl := Option.some.inj h
    exact ImpX.here ⟨_,.cons (.tmp _ _ J) .nil,_,.cons .p0 .nil,⟨J,J⟩⟩
  · refine have h := iteF hc h; tK<|tSR<|rM J J<|rM J J<|rM J J<|rM J J<|ARun.qv (q_subw J J) J<|ARun.qv (q_addw J J) J<|bndE h fun v1 e1 h=>t_call0 J (Stream_Next_c e1) (CoL.refl _) (.cons .p0 .nil) J J<|ARun.qv (q_addw J J) J<|rA J J<|rN<|ATodo.ret<|?_
    obtain rfl := Option.some.inj h
    exact ImpX.here ⟨_,.cons (.tmp _ _ J) .nil,_,.cons .p0 .nil,⟨J,J⟩⟩

theorem Stream_Odd_c [GI : GTab] {b_0 : Bk} {p0x0 : Fleetmake_Stream} {p1x0 : Int} {p2x0 : Int} {r : Int × Fleetmake_Stream} (h : Stream_Odd p0x0 p1x0 p2x0 = some r) : ACall Tryz.prog 49 [.ptr b_0 0,I p1x0,I p2x0] [(b_0,.cells [lE0 p0x0.L,I p0x0.at_])] (T0 ([(b_0,.cells [lE0 r.2.L,I r.2.at_])]) (I r.1)) := by
  unfold Stream_Odd at h
  refine ACall.lessH ?_
  refine ACall.bodyN Tryz.func49 J Tryz.ntmps49 Tryz.results49 J J ?_
  refine tSR<|rA J J<|rN<|tS<|tSR<|rM J J<|bndE h fun v1 e1 h=>t_call0 J (Stream_Flip_c e1) (CoL.refl _) (.cons .p0 .nil) J J<|rN<|ATodo.cond J (fun hc=>?_) (fun hc=>?_)
  · refine have h := iteT hc h; tSR<|rM J J<|rM J J<|ARun.qv (q_subw J J) J<|rM J J<|ARun.qv (q_addw J J) J<|rM J J<|rM J J<|n_buildSliceL (xs := ([w64 (p1x0 - (1 : Int)),w64 (p2x0 + (1 : Int)),p1x0,p2x0,(-1099511627776 : Int),(1099511627776 : Int)]).map I) J J J J J J<|bndE h fun v2 e2 h=>t_call0 J (Stream_Pick_c e2) (CoL.refl _) (.cons .p0 .nil) J J<|rA J J<|rN<|ATodo.ret<|?_
    obtain rfl := Option.some.inj h
    exact ImpX.here ⟨_,.cons (.tmp _ _ J) .nil,_,.cons .p0 .nil,⟨J,J⟩⟩
  · refine have h := iteFb hc h; tK<|tSR<|rM J J<|rM J J<|rM J J<|bndE h fun v3 e3 h=>t_call0 J (Stream_Range_c e3) (CoL.refl _) (.cons .p0 .nil) J J<|rA J J<|rN<|ATodo.ret<|?_
    obtain rfl := Option.some.inj h
    exact ImpX.here ⟨_,.cons (.tmp _ _ J) .nil,_,.cons .p0 .nil,⟨J,J⟩⟩

theorem Stream_Kinds_c [GI : GTab] {b_0 : Bk} {p0x0 : Fleetmake_Stream} {r : (List Model) × Fleetmake_Stream} (h : Stream_Kinds p0x0 = some r) : ACall Tryz.prog 6 [.ptr b_0 0] [(b_0,.cells [lE0 p0x0.L,I p0x0.at_])] (T0 ([(b_0,.cells [lE0 r.2.L,I r.2.at_])]) (lE3 r.1)) := by
  unfold Stream_Kinds at h
  refine ACall.lessH ?_
  refine ACall.bodyN Tryz.func6 J Tryz.ntmps6 Tryz.results6 J J ?_
  refine tSR<|rA J J<|rN<|tSR<|rM J J<|bndE h fun v1 e1 h=>t_call3 J (Stream_RightKinds_c e1) (CoL.refl _) (.cons .p0 .nil) (fun _ _ _=>J) J fun m2 b4 b5=>?_
  generalize e2 : (⟨some m2,2⟩ : Bk) = b3
  refine rA J J<|rN<|tS<|tSR<|rM J J<|bndE h fun v6 e3 h=>t_call0 J (Stream_Flip_c e3) (CoL.refl _) (.cons .p0 .nil) J J<|rN<|ATodo.cut (fun σ'=>∃ (b9 : Bk) (l7 : List Int) (n8 : Int) (l10 : List Model),Stream_Kinds_j1 l7 n8 l10 = some r ∧ σ' = ⟨71,[(3,.sl 3 b9 0 l10.length)],[(b_0,.cells [lE0 l7,I n8]),(b9,aE3 l10)]⟩) ?_ ?_
  · refine ATodo.cond J (fun hc=>?_) (fun hc=>?_)
    · refine have h := iteT hc h; tSR<|rM J J<|rM J J<|bndE h fun v11 e4 h=>t_call0 J (Stream_Next_c e4) (CoL.refl _) (.cons .p0 .nil) J J<|Classical.byCases (p := v11.1 = (0 : Int)) (fun hqe5=>?_) (fun hqe5=>?_)
      · replace h := iteT hqe5 h
        refine ARun.qv (q_index_lit (q := 0) (o := 0) J J J hqe5 J J) J<|rA J J<|rN<|tSR<|rM J J<|bndE h fun v12 e6 h=>t_call0 J (Stream_Next_c e6) (CoL.refl _) (.cons .p0 .nil) J J<|rN<|ATodo.block<|tSR<|ARun.qv (q_eql J J) J<|rA J J<|rN<|ATodo.cut (fun σ'=>∃ (b15 : Bk) (l13 : List Int) (n14 : Int) (l16 : List Model),Stream_Kinds_j2 l13 n14 l16 = some r ∧ σ' = ⟨71,[(3,.sl 3 b15 0 l16.length)],[(b_0,.cells [lE0 l13,I n14]),(b15,aE3 l16)]⟩) ?_ ?_
        · refine ATodo.cond_d J (fun hc=>?_) (fun hc=>?_)
          · exact have h := iteT hc h; tR<|rM J J<|rM J J<|n_buildSliceL (xs := ([([] : Str),([109,97] : Str),([65] : Str)]).map AV.str) J J J J J J<|bndE h fun v17 e7 h=>t_call0 J (Stream_Some_c e7) (CoL.refl _) (.cons .p0 .nil) J J<|ARun.qv (q_nilCheck_ptr J) J<|rF J J J<|n_store_ptr J J J J .p1 J J<|rN<|ATodo.stop<|ImpX.freeze .p2<|ImpX.coBox (j := 2) .p1 J (Co.froT .p2) J J<|ImpX.freeze .p3<|ImpX.coBox (j := 5) .p1 J (Co.froT .p3) J J<|ImpX.cellsArr (xs := ([(⟨v17.1,v1.1.1.Prefix,v1.1.1.Props⟩ : Model),v1.1.2] : List Model).map Model.av) e2 .p1 J J J<|ImpX.lq [0,0] ⟨b3,v17.2.L,v17.2.at_,[(⟨v17.1,v1.1.1.Prefix,v1.1.1.Props⟩ : Model),v1.1.2],h,J⟩ J J
          · refine have h := iteF hc h; tSR<|ARun.qv (q_eql J J) J<|rA J J<|rN<|ATodo.cut (fun σ'=>∃ (b20 : Bk) (l18 : List Int) (n19 : Int) (l21 : List Model),Stream_Kinds_j3 l18 n19 l21 = some r ∧ σ' = ⟨71,[(3,.sl 3 b20 0 l21.length)],[(b_0,.cells [lE0 l18,I n19]),(b20,aE3 l21)]⟩) ?_ ?_
            · refine ATodo.cond_d J (fun hc=>?_) (fun hc=>?_)
              · exact have h := iteT hc h; tR<|rM J J<|rM J J<|n_buildSliceL (xs := ([([65] : Str),([65,66,67,68,69] : Str),([97,98] : Str),([65,66] : Str),([65,49] : Str)]).map AV.str) J J J J J J<|bndE h fun v22 e8 h=>t_call0 J (Stream_Some_c e8) (CoL.refl _) (.cons .p0 .nil) J J<|ARun.qv (q_nilCheck_ptr J) J<|rF J J J<|n_store_ptr J J J J .p1 J J<|rN<|ATodo.stop<|ImpX.freeze .p2<|ImpX.coBox (j := 2) .p1 J (Co.froT .p2) J J<|ImpX.freeze .p3<|ImpX.coBox (j := 5) .p1 J (Co.froT .p3) J J<|ImpX.cellsArr (xs := ([(⟨v1.1.1.Key,v22.1,v1.1.1.Props⟩ : Model),v1.1.2] : List Model).map Model.av) e2 .p1 J J J<|ImpX.lq [0,0] ⟨b3,v22.2.L,v22.2.at_,[(⟨v1.1.1.Key,v22.1,v1.1.1.Props⟩ : Model),v1.1.2],h,J⟩ J J
              · refine have h := iteF hc h; tSR<|ARun.qv (q_eql J J) J<|rA J J<|rN<|ATodo.cut (fun σ'=>∃ (b25 : Bk) (l23 : List Int) (n24 : Int) (l26 : List Model),Stream_Kinds_j4 l23 n24 l26 = some r ∧ σ' = ⟨71,[(3,.sl 3 b25 0 l26.length)],[(b_0,.cells [lE0 l23,I n24]),(b25,aE3 l26)]⟩) ?_ ?_
                · refine ATodo.cond_d J (fun hc=>?_) (fun hc=>?_)
                  · refine have h := iteT hc h; bndE h fun v27 e9 h=>bndE h fun v28 e10 h=>bndE h fun l29 e11 h=>ATodo.regionT (id := 11) (A := [0,0,2,6,14,0,0,96,0,480,992,2016,4094,8191,16383,32767]) (H0 := [(b_0,.cells [lE0 v12.2.L,I v12.2.at_]),(b4,aE2 v1.1.1.Props)]) (HH := fun β=>[(b_0,.cells [lE0 v28.2.L,I v28.2.at_]),((β 12),aE2 l29),(b3,.cells [.str v1.1.1.Key,.str v1.1.1.Prefix,.sl 4 b4 0 v1.1.1.Props.length,.str v1.1.2.Key,.str v1.1.2.Prefix,.sl 4 b5 0 v1.1.2.Props.length]),(b5,aE2 v1.1.2.Props)]) 13 mixed J (by kernel_rfl) (by kernel_rfl) [⟨none,some 7,[],fun _=>(b_0,.cells [lE0 v12.2.L,I v12.2.at_]),none,[]⟩,⟨none,some 12,[],fun _=>(b4,aE2 v1.1.1.Props),none,[]⟩,⟨some 7,some 9,[],fun _=>(b_0,.cells [lE0 v27.2.L,I v27.2.at_]),none,[]⟩,⟨some 9,none,[],fun _=>(b_0,.cells [lE0 v28.2.L,I v28.2.at_]),none,[]⟩,⟨some 12,none,[],fun b=>(b,aE2 l29),none,[]⟩] [12] J (by kernel_rfl) J (.cons .p0 (.cons .p1 .nil)) (fun _=>J)<|AT.am 7 J J<|AM.qv (q_move J) J<|AM.qv (q_move J) J<|AM.qv (q_nilCheck_ptr J) J<|AM.qv (n_field_ptr J J) J<|AM.qv (q_load_ptr J J .p0 J) J<|AM.qv (q_move J) J<|AM.buildSliceL (xs := ([([122,122] : Str),([97] : Str),([97,46,46,98] : Str),([65] : Str),([97,46,98,46,99,46,100,46,101,46,102] : Str)]).map AV.str) J J J J J J<|AM.nil<|AT.runS (av := .str v27.1) (Ti := [(b_0,.cells [lE0 v12.2.L,I v12.2.at_])]) (Pi := [(b_0,.cells [lE0 v27.2.L,I v27.2.at_])]) (fun _=>J) (fun _=>J) (fun _=>J) J J J ?_ ?_
                    · exact t_call0 J (Stream_Some_c e9) (CoL.refl _) (.cons .p0 .nil) J J<|ARun.nil ⟨_,J,J⟩
                    refine AT.am 1 J J<|AM.qv (q_move J) J<|AM.nil<|AT.runS (av := I v28.1) (Ti := [(b_0,.cells [lE0 v27.2.L,I v27.2.at_])]) (Pi := [(b_0,.cells [lE0 v28.2.L,I v28.2.at_])]) (fun _=>J) (fun _=>J) (fun _=>J) J J J ?_ ?_
                    · exact t_call0 J (Stream_Odd_c e10) (CoL.refl _) (.cons .p0 .nil) J J<|ARun.nil ⟨_,J,J⟩
                    refine AT.am 2 J J<|AM.qv (n_build J J J J J) J<|AM.buildSliceL (xs := ([(⟨v27.1,v28.1,(0 : Int),(0 : Int)⟩ : PropType)]).map PropType.av) J J J J J J<|AM.nil<|AT.runD (V := fun b=>.sl 4 b 0 l29.length) (Ti := [(b4,aE2 v1.1.1.Props)]) (Pi := fun b=>[(b,aE2 l29)]) (fun _=>J) (fun _=>J) (fun _ _=>J) J (fun _=>J) J J J ?_ ?_
                    · exact t_append (g := PropType.av) J J J J J J J J (.list _) e11 (fun _=>.p0) J fun b30=>ARun.nil ⟨b30,_,J,J⟩
                    refine AT.nilN (fun _=>J) fun β=>?_
                    generalize β 12 = b30
                    clear β
                    exact ARun.qv (q_nilCheck_ptr J) J<|rF J J J<|n_store_ptr J J J J .p2 J J<|rN<|ATodo.stop<|ImpX.freeze .p1<|ImpX.coBox (j := 2) .p2 J (Co.froT .p1) J J<|ImpX.freeze .p3<|ImpX.coBox (j := 5) .p2 J (Co.froT .p3) J J<|ImpX.cellsArr (xs := ([(⟨v1.1.1.Key,v1.1.1.Prefix,l29⟩ : Model),v1.1.2] : List Model).map Model.av) e2 .p2 J J J<|ImpX.lq [0,1] ⟨b3,v28.2.L,v28.2.at_,[(⟨v1.1.1.Key,v1.1.1.Prefix,l29⟩ : Model),v1.1.2],h,J⟩ J J
                  · refine have h := iteF hc h; tSR<|ARun.qv (q_eql J J) J<|rA J J<|rN<|ATodo.cut (fun σ'=>∃ (b33 : Bk) (l31 : List Int) (n32 : Int) (l34 : List Model),Stream_Kinds_j5 l31 n32 l34 = some r ∧ σ' = ⟨71,[(3,.sl 3 b33 0 l34.length)],[(b_0,.cells [lE0 l31,I n32]),(b33,aE3 l34)]⟩) ?_ ?_
                    · refine ATodo.cond_d J (fun hc=>?_) (fun hc=>?_)
                      · refine have h := iteT hc h; bndE h fun v35 e12 h=>bndE h fun v36 e13 h=>ATodo.regionT (id := 13) (A := [0,1,3,7,0,16,48,112,0,256,0,1792,4095,8191,16383,32767,65535,131071]) (H0 := [(b_0,.cells [lE0 v12.2.L,I v12.2.at_])]) (HH := fun β=>[(b_0,.cells [lE0 v36.2.L,I v36.2.at_]),(b3,.cells [.str v1.1.1.Key,.str v1.1.1.Prefix,.sl 4 b4 0 v1.1.1.Props.length,.str v1.1.2.Key,.str v1.1.2.Prefix,.sl 4 b5 0 v1.1.2.Props.length]),(b4,aE2 v1.1.1.Props),(b5,aE2 v1.1.2.Props)]) 12 mixed J (by kernel_rfl) (by kernel_rfl) [⟨none,some 9,[],fun _=>(b_0,.cells [lE0 v12.2.L,I v12.2.at_]),none,[]⟩,⟨some 9,some 11,[],fun _=>(b_0,.cells [lE0 v35.2.L,I v35.2.at_]),none,[]⟩,⟨some 11,none,[],fun _=>(b_0,.cells [lE0 v36.2.L,I v36.2.at_]),none,[]⟩] [] J (by kernel_rfl) J (.cons .p0 .nil) (fun _=>J)<|AT.am 9 J J<|AM.qv (q_move J) J<|AM.qv (q_nilCheck_ptr J) J<|AM.qv (n_field_ptr J J) J<|AM.qv (q_load_ptr J J .p0 J) J<|AM.qv (q_move J) J<|AM.qv (q_nilCheck_ptr J) J<|AM.qv (n_field_ptr J J) J<|AM.qv (q_load_ptr J J .p0 J) J<|AM.qv (q_move J) J<|AM.nil<|AT.runS (av := I v35.1) (Ti := [(b_0,.cells [lE0 v12.2.L,I v12.2.at_])]) (Pi := [(b_0,.cells [lE0 v35.2.L,I v35.2.at_])]) (fun _=>J) (fun _=>J) (fun _=>J) J J J ?_ ?_
                        · exact t_call0 J (Stream_Odd_c e12) (CoL.refl _) (.cons .p0 .nil) J J<|ARun.nil ⟨_,J,J⟩
                        refine AT.am 1 J J<|AM.qv (q_move J) J<|AM.nil<|AT.runS (av := I v36.1) (Ti := [(b_0,.cells [lE0 v35.2.L,I v35.2.at_])]) (Pi := [(b_0,.cells [lE0 v36.2.L,I v36.2.at_])]) (fun _=>J) (fun _=>J) (fun _=>J) J J J ?_ ?_
                        · exact t_call0 J (Stream_Odd_c e13) (CoL.refl _) (.cons .p0 .nil) J J<|ARun.nil ⟨_,J,J⟩
                        exact AT.nilN (fun _=>J) fun β=>bndE h fun v37 e14 h=>ARun.qv (t_index_sl J J J e14) J<|ARun.qv (t_field_aptr J J) J<|t_store_aptr1 (g := PropType.av) (el' := (⟨v37.Name,v37.Kind,v35.1,v37.High⟩ : PropType)) J J J J e14 J .p2 J<|ARun.ghost<|ImpX.eqs (s := 57) (av' := .sl 4 b4 0 (v1.1.1.Props.set (0 : Int).toNat (⟨v37.Name,v37.Kind,v35.1,v37.High⟩ : PropType)).length) J (by rw [List.length_set])<|ImpX.here<|ARun.ghost<|ImpX.eqs (s := 61) (av' := .sl 4 b4 0 (v1.1.1.Props.set (0 : Int).toNat (⟨v37.Name,v37.Kind,v35.1,v37.High⟩ : PropType)).length) J (by rw [List.length_set])<|ImpX.here<|ARun.ghost<|ImpX.eqBox (j := 2) (av' := .sl 4 b4 0 (v1.1.1.Props.set (0 : Int).toNat (⟨v37.Name,v37.Kind,v35.1,v37.High⟩ : PropType)).length) .p1 J (by rw [List.length_set]) J<|ImpX.here<|bndE h fun v38 e15 h=>ARun.qv (t_index_sl J J J e15) J<|ARun.qv (t_field_aptr J J) J<|t_store_aptr1 (g := PropType.av) (el' := (⟨v38.Name,v38.Kind,v38.Low,v36.1⟩ : PropType)) J J J J e15 J .p2 J<|ARun.ghost<|ImpX.eqs (s := 57) (av' := .sl 4 b4 0 ((v1.1.1.Props.set (0 : Int).toNat (⟨v37.Name,v37.Kind,v35.1,v37.High⟩ : PropType)).set (0 : Int).toNat (⟨v38.Name,v38.Kind,v38.Low,v36.1⟩ : PropType)).length) J (by rw [List.length_set])<|ImpX.here<|ARun.ghost<|ImpX.eqs (s := 61) (av' := .sl 4 b4 0 ((v1.1.1.Props.set (0 : Int).toNat (⟨v37.Name,v37.Kind,v35.1,v37.High⟩ : PropType)).set (0 : Int).toNat (⟨v38.Name,v38.Kind,v38.Low,v36.1⟩ : PropType)).length) J (by rw [List.length_set])<|ImpX.here<|ARun.ghost<|ImpX.eqBox (j := 2) (av' := .sl 4 b4 0 ((v1.1.1.Props.set (0 : Int).toNat (⟨v37.Name,v37.Kind,v35.1,v37.High⟩ : PropType)).set (0 : Int).toNat (⟨v38.Name,v38.Kind,v38.Low,v36.1⟩ : PropType)).length) .p1 J (by rw [List.length_set]) J<|ImpX.here<|rN<|ATodo.stop<|ImpX.freeze .p2<|ImpX.coBox (j := 2) .p1 J (Co.froT .p2) J J<|ImpX.freeze .p3<|ImpX.coBox (j := 5) .p1 J (Co.froT .p3) J J<|ImpX.cellsArr (xs := ([(⟨v1.1.1.Key,v1.1.1.Prefix,(v1.1.1.Props.set (0 : Int).toNat (⟨v37.Name,v37.Kind,v35.1,v37.High⟩ : PropType)).set (0 : Int).toNat (⟨v38.Name,v38.Kind,v38.Low,v36.1⟩ : PropType)⟩ : Model),v1.1.2] : List Model).map Model.av) e2 .p1 J J J<|ImpX.lq [0,0] ⟨b3,v36.2.L,v36.2.at_,[(⟨v1.1.1.Key,v1.1.1.Prefix,(v1.1.1.Props.set (0 : Int).toNat (⟨v37.Name,v37.Kind,v35.1,v37.High⟩ : PropType)).set (0 : Int).toNat (⟨v38.Name,v38.Kind,v38.Low,v36.1⟩ : PropType)⟩ : Model),v1.1.2],h,J⟩ J J
                      · exact have h := iteF hc h; tR<|rM J J<|ARun.qv (n_build J J J J J) J<|n_buildSliceL (xs := [.agg [.str ([109,122] : Str),.str ([81,81] : Str),.nil]]) J J J J J J<|ARun.ghost<|ImpX.cox (s := 17) (av' := .list 3 (([(⟨([109,122] : Str),([81,81] : Str),[]⟩ : Model)] : List Model).map Model.av)) J (CoX.listL (.cons .r (.cons .r (.cons .n .nil))) J J)<|ImpX.here<|ARun.ghost<|ImpX.freeze .p2<|ImpX.here<|ARun.ghost<|ImpX.coBox (j := 2) .p1 J (Co.froT .p2) J J<|ImpX.here<|ARun.ghost<|ImpX.freeze .p3<|ImpX.here<|ARun.ghost<|ImpX.coBox (j := 5) .p1 J (Co.froT .p3) J J<|ImpX.here<|ARun.ghost<|ImpX.cellsArr (xs := ([v1.1.1,v1.1.2] : List Model).map Model.av) e2 .p1 J J J<|ImpX.here<|bndE h fun l39 e16 h=>t_append (g := Model.av) J J J J J J J J (.list _) e16 (fun _=>.p1) J fun b40=>rA J J<|rN<|ATodo.stop<|ImpX.lq [0,0] ⟨b40,v12.2.L,v12.2.at_,l39,h,J⟩ J J
                    · rintro σ' ⟨b33, l31, n32, l34, h, rfl⟩
                      unfold Stream_Kinds_j5 at h
                      exact ATodo.stop<|ImpX.lq [0,0] ⟨b33,l31,n32,l34,h,J⟩ J J
                · rintro σ' ⟨b25, l23, n24, l26, h, rfl⟩
                  unfold Stream_Kinds_j4 at h
                  exact ATodo.stop<|ImpX.lq [0,0] ⟨b25,l23,n24,l26,h,J⟩ J J
            · rintro σ' ⟨b20, l18, n19, l21, h, rfl⟩
              unfold Stream_Kinds_j3 at h
              exact ATodo.stop<|ImpX.lq [0,0] ⟨b20,l18,n19,l21,h,J⟩ J J
        · rintro σ' ⟨b15, l13, n14, l16, h, rfl⟩
          unfold Stream_Kinds_j2 at h
          exact ATodo.blk<|ATodo.stop<|ImpX.lq [0,0] ⟨b15,l13,n14,l16,h,J⟩ J J
      · replace h := iteF hqe5 h
        refine Classical.byCases (p := v11.1 = (1 : Int)) (fun hqe17=>?_) (fun hqe17=>?_)
        · replace h := iteT hqe17 h
          refine ARun.qv (q_index_lit (q := 1) (o := 3) J J J hqe17 J J) J<|rA J J<|rN<|tSR<|rM J J<|bndE h fun v41 e18 h=>t_call0 J (Stream_Next_c e18) (CoL.refl _) (.cons .p0 .nil) J J<|rN<|ATodo.block<|tSR<|ARun.qv (q_eql J J) J<|rA J J<|rN<|ATodo.cut (fun σ'=>∃ (b44 : Bk) (l42 : List Int) (n43 : Int) (l45 : List Model),Stream_Kinds_j6 l42 n43 l45 = some r ∧ σ' = ⟨71,[(3,.sl 3 b44 0 l45.length)],[(b_0,.cells [lE0 l42,I n43]),(b44,aE3 l45)]⟩) ?_ ?_
          · refine ATodo.cond_d J (fun hc=>?_) (fun hc=>?_)
            · exact have h := iteT hc h; tR<|rM J J<|rM J J<|n_buildSliceL (xs := ([([] : Str),([109,97] : Str),([65] : Str)]).map AV.str) J J J J J J<|bndE h fun v46 e19 h=>t_call0 J (Stream_Some_c e19) (CoL.refl _) (.cons .p0 .nil) J J<|ARun.qv (q_nilCheck_ptr J) J<|rF J J J<|n_store_ptr J J J J .p1 J J<|rN<|ATodo.stop<|ImpX.freeze .p2<|ImpX.coBox (j := 2) .p1 J (Co.froT .p2) J J<|ImpX.freeze .p3<|ImpX.coBox (j := 5) .p1 J (Co.froT .p3) J J<|ImpX.cellsArr (xs := ([v1.1.1,(⟨v46.1,v1.1.2.Prefix,v1.1.2.Props⟩ : Model)] : List Model).map Model.av) e2 .p1 J J J<|ImpX.lq [0,0] ⟨b3,v46.2.L,v46.2.at_,[v1.1.1,(⟨v46.1,v1.1.2.Prefix,v1.1.2.Props⟩ : Model)],h,J⟩ J J
            · refine have h := iteF hc h; tSR<|ARun.qv (q_eql J J) J<|rA J J<|rN<|ATodo.cut (fun σ'=>∃ (b49 : Bk) (l47 : List Int) (n48 : Int) (l50 : List Model),Stream_Kinds_j7 l47 n48 l50 = some r ∧ σ' = ⟨71,[(3,.sl 3 b49 0 l50.length)],[(b_0,.cells [lE0 l47,I n48]),(b49,aE3 l50)]⟩) ?_ ?_
              · refine ATodo.cond_d J (fun hc=>?_) (fun hc=>?_)
                · exact have h := iteT hc h; tR<|rM J J<|rM J J<|n_buildSliceL (xs := ([([65] : Str),([65,66,67,68,69] : Str),([97,98] : Str),([65,66] : Str),([65,49] : Str)]).map AV.str) J J J J J J<|bndE h fun v51 e20 h=>t_call0 J (Stream_Some_c e20) (CoL.refl _) (.cons .p0 .nil) J J<|ARun.qv (q_nilCheck_ptr J) J<|rF J J J<|n_store_ptr J J J J .p1 J J<|rN<|ATodo.stop<|ImpX.freeze .p2<|ImpX.coBox (j := 2) .p1 J (Co.froT .p2) J J<|ImpX.freeze .p3<|ImpX.coBox (j := 5) .p1 J (Co.froT .p3) J J<|ImpX.cellsArr (xs := ([v1.1.1,(⟨v1.1.2.Key,v51.1,v1.1.2.Props⟩ : Model)] : List Model).map Model.av) e2 .p1 J J J<|ImpX.lq [0,0] ⟨b3,v51.2.L,v51.2.at_,[v1.1.1,(⟨v1.1.2.Key,v51.1,v1.1.2.Props⟩ : Model)],h,J⟩ J J
                · refine have h := iteF hc h; tSR<|ARun.qv (q_eql J J) J<|rA J J<|rN<|ATodo.cut (fun σ'=>∃ (b54 : Bk) (l52 : List Int) (n53 : Int) (l55 : List Model),Stream_Kinds_j8 l52 n53 l55 = some r ∧ σ' = ⟨71,[(3,.sl 3 b54 0 l55.length)],[(b_0,.cells [lE0 l52,I n53]),(b54,aE3 l55)]⟩) ?_ ?_
                  · refine ATodo.cond_d J (fun hc=>?_) (fun hc=>?_)
                    · refine have h := iteT hc h; bndE h fun v56 e21 h=>bndE h fun v57 e22 h=>bndE h fun l58 e23 h=>ATodo.regionT (id := 11) (A := [0,0,2,6,14,0,0,96,0,480,992,2016,4094,8191,16383,32767]) (H0 := [(b_0,.cells [lE0 v41.2.L,I v41.2.at_]),(b5,aE2 v1.1.2.Props)]) (HH := fun β=>[(b_0,.cells [lE0 v57.2.L,I v57.2.at_]),((β 12),aE2 l58),(b3,.cells [.str v1.1.1.Key,.str v1.1.1.Prefix,.sl 4 b4 0 v1.1.1.Props.length,.str v1.1.2.Key,.str v1.1.2.Prefix,.sl 4 b5 0 v1.1.2.Props.length]),(b4,aE2 v1.1.1.Props)]) 13 mixed J (by kernel_rfl) (by kernel_rfl) [⟨none,some 7,[],fun _=>(b_0,.cells [lE0 v41.2.L,I v41.2.at_]),none,[]⟩,⟨none,some 12,[],fun _=>(b5,aE2 v1.1.2.Props),none,[]⟩,⟨some 7,some 9,[],fun _=>(b_0,.cells [lE0 v56.2.L,I v56.2.at_]),none,[]⟩,⟨some 9,none,[],fun _=>(b_0,.cells [lE0 v57.2.L,I v57.2.at_]),none,[]⟩,⟨some 12,none,[],fun b=>(b,aE2 l58),none,[]⟩] [12] J (by kernel_rfl) J (.cons .p0 (.cons .p2 .nil)) (fun _=>J)<|AT.am 7 J J<|AM.qv (q_move J) J<|AM.qv (q_move J) J<|AM.qv (q_nilCheck_ptr J) J<|AM.qv (n_field_ptr J J) J<|AM.qv (q_load_ptr J J .p0 J) J<|AM.qv (q_move J) J<|AM.buildSliceL (xs := ([([122,122] : Str),([97] : Str),([97,46,46,98] : Str),([65] : Str),([97,46,98,46,99,46,100,46,101,46,102] : Str)]).map AV.str) J J J J J J<|AM.nil<|AT.runS (av := .str v56.1) (Ti := [(b_0,.cells [lE0 v41.2.L,I v41.2.at_])]) (Pi := [(b_0,.cells [lE0 v56.2.L,I v56.2.at_])]) (fun _=>J) (fun _=>J) (fun _=>J) J J J ?_ ?_
                      · exact t_call0 J (Stream_Some_c e21) (CoL.refl _) (.cons .p0 .nil) J J<|ARun.nil ⟨_,J,J⟩
                      refine AT.am 1 J J<|AM.qv (q_move J) J<|AM.nil<|AT.runS (av := I v57.1) (Ti := [(b_0,.cells [lE0 v56.2.L,I v56.2.at_])]) (Pi := [(b_0,.cells [lE0 v57.2.L,I v57.2.at_])]) (fun _=>J) (fun _=>J) (fun _=>J) J J J ?_ ?_
                      · exact t_call0 J (Stream_Odd_c e22) (CoL.refl _) (.cons .p0 .nil) J J<|ARun.nil ⟨_,J,J⟩
                      refine AT.am 2 J J<|AM.qv (n_build J J J J J) J<|AM.buildSliceL (xs := ([(⟨v56.1,v57.1,(0 : Int),(0 : Int)⟩ : PropType)]).map PropType.av) J J J J J J<|AM.nil<|AT.runD (V := fun b=>.sl 4 b 0 l58.length) (Ti := [(b5,aE2 v1.1.2.Props)]) (Pi := fun b=>[(b,aE2 l58)]) (fun _=>J) (fun _=>J) (fun _ _=>J) J (fun _=>J) J J J ?_ ?_
                      · exact t_append (g := PropType.av) J J J J J J J J (.list _) e23 (fun _=>.p0) J fun b59=>ARun.nil ⟨b59,_,J,J⟩
                      refine AT.nilN (fun _=>J) fun β=>?_
                      generalize β 12 = b59
                      clear β
                      exact ARun.qv (q_nilCheck_ptr J) J<|rF J J J<|n_store_ptr J J J J .p2 J J<|rN<|ATodo.stop<|ImpX.freeze .p3<|ImpX.coBox (j := 2) .p2 J (Co.froT .p3) J J<|ImpX.freeze .p1<|ImpX.coBox (j := 5) .p2 J (Co.froT .p1) J J<|ImpX.cellsArr (xs := ([v1.1.1,(⟨v1.1.2.Key,v1.1.2.Prefix,l58⟩ : Model)] : List Model).map Model.av) e2 .p2 J J J<|ImpX.lq [0,1] ⟨b3,v57.2.L,v57.2.at_,[v1.1.1,(⟨v1.1.2.Key,v1.1.2.Prefix,l58⟩ : Model)],h,J⟩ J J
                    · refine have h := iteF hc h; tSR<|ARun.qv (q_eql J J) J<|rA J J<|rN<|ATodo.cut (fun σ'=>∃ (b62 : Bk) (l60 : List Int) (n61 : Int) (l63 : List Model),Stream_Kinds_j9 l60 n61 l63 = some r ∧ σ' = ⟨71,[(3,.sl 3 b62 0 l63.length)],[(b_0,.cells [lE0 l60,I n61]),(b62,aE3 l63)]⟩) ?_ ?_
                      · refine ATodo.cond_d J (fun hc=>?_) (fun hc=>?_)
                        · refine have h := iteT hc h; bndE h fun v64 e24 h=>bndE h fun v65 e25 h=>ATodo.regionT (id := 13) (A := [0,1,3,7,0,16,48,112,0,256,0,1792,4095,8191,16383,32767,65535,131071]) (H0 := [(b_0,.cells [lE0 v41.2.L,I v41.2.at_])]) (HH := fun β=>[(b_0,.cells [lE0 v65.2.L,I v65.2.at_]),(b3,.cells [.str v1.1.1.Key,.str v1.1.1.Prefix,.sl 4 b4 0 v1.1.1.Props.length,.str v1.1.2.Key,.str v1.1.2.Prefix,.sl 4 b5 0 v1.1.2.Props.length]),(b4,aE2 v1.1.1.Props),(b5,aE2 v1.1.2.Props)]) 12 mixed J (by kernel_rfl) (by kernel_rfl) [⟨none,some 9,[],fun _=>(b_0,.cells [lE0 v41.2.L,I v41.2.at_]),none,[]⟩,⟨some 9,some 11,[],fun _=>(b_0,.cells [lE0 v64.2.L,I v64.2.at_]),none,[]⟩,⟨some 11,none,[],fun _=>(b_0,.cells [lE0 v65.2.L,I v65.2.at_]),none,[]⟩] [] J (by kernel_rfl) J (.cons .p0 .nil) (fun _=>J)<|AT.am 9 J J<|AM.qv (q_move J) J<|AM.qv (q_nilCheck_ptr J) J<|AM.qv (n_field_ptr J J) J<|AM.qv (q_load_ptr J J .p0 J) J<|AM.qv (q_move J) J<|AM.qv (q_nilCheck_ptr J) J<|AM.qv (n_field_ptr J J) J<|AM.qv (q_load_ptr J J .p0 J) J<|AM.qv (q_move J) J<|AM.nil<|AT.runS (av := I v64.1) (Ti := [(b_0,.cells [lE0 v41.2.L,I v41.2.at_])]) (Pi := [(b_0,.cells [lE0 v64.2.L,I v64.2.at_])]) (fun _=>J) (fun _=>J) (fun _=>J) J J J ?_ ?_
                          · exact t_call0 J (Stream_Odd_c e24) (CoL.refl _) (.cons .p0 .nil) J J<|ARun.nil ⟨_,J,J⟩
                          refine AT.am 1 J J<|AM.qv (q_move J) J<|AM.nil<|AT.runS (av := I v65.1) (Ti := [(b_0,.cells [lE0 v64.2.L,I v64.2.at_])]) (Pi := [(b_0,.cells [lE0 v65.2.L,I v65.2.at_])]) (fun _=>J) (fun _=>J) (fun _=>J) J J J ?_ ?_
                          · exact t_call0 J (Stream_Odd_c e25) (CoL.refl _) (.cons .p0 .nil) J J<|ARun.nil ⟨_,J,J⟩
                          exact AT.nilN (fun _=>J) fun β=>bndE h fun v66 e26 h=>ARun.qv (t_index_sl J J J e26) J<|ARun.qv (t_field_aptr J J) J<|t_store_aptr1 (g := PropType.av) (el' := (⟨v66.Name,v66.Kind,v64.1,v66.High⟩ : PropType)) J J J J e26 J .p3 J<|ARun.ghost<|ImpX.eqs (s := 57) (av' := .sl 4 b5 0 (v1.1.2.Props.set (0 : Int).toNat (⟨v66.Name,v66.Kind,v64.1,v66.High⟩ : PropType)).length) J (by rw [List.length_set])<|ImpX.here<|ARun.ghost<|ImpX.eqs (s := 61) (av' := .sl 4 b5 0 (v1.1.2.Props.set (0 : Int).toNat (⟨v66.Name,v66.Kind,v64.1,v66.High⟩ : PropType)).length) J (by rw [List.length_set])<|ImpX.here<|ARun.ghost<|ImpX.eqBox (j := 5) (av' := .sl 4 b5 0 (v1.1.2.Props.set (0 : Int).toNat (⟨v66.Name,v66.Kind,v64.1,v66.High⟩ : PropType)).length) .p1 J (by rw [List.length_set]) J<|ImpX.here<|bndE h fun v67 e27 h=>ARun.qv (t_index_sl J J J e27) J<|ARun.qv (t_field_aptr J J) J<|t_store_aptr1 (g := PropType.av) (el' := (⟨v67.Name,v67.Kind,v67.Low,v65.1⟩ : PropType)) J J J J e27 J .p3 J<|ARun.ghost<|ImpX.eqs (s := 57) (av' := .sl 4 b5 0 ((v1.1.2.Props.set (0 : Int).toNat (⟨v66.Name,v66.Kind,v64.1,v66.High⟩ : PropType)).set (0 : Int).toNat (⟨v67.Name,v67.Kind,v67.Low,v65.1⟩ : PropType)).length) J (by rw [List.length_set])<|ImpX.here<|ARun.ghost<|ImpX.eqs (s := 61) (av' := .sl 4 b5 0 ((v1.1.2.Props.set (0 : Int).toNat (⟨v66.Name,v66.Kind,v64.1,v66.High⟩ : PropType)).set (0 : Int).toNat (⟨v67.Name,v67.Kind,v67.Low,v65.1⟩ : PropType)).length) J (by rw [List.length_set])<|ImpX.here<|ARun.ghost<|ImpX.eqBox (j := 5) (av' := .sl 4 b5 0 ((v1.1.2.Props.set (0 : Int).toNat (⟨v66.Name,v66.Kind,v64.1,v66.High⟩ : PropType)).set (0 : Int).toNat (⟨v67.Name,v67.Kind,v67.Low,v65.1⟩ : PropType)).length) .p1 J (by rw [List.length_set]) J<|ImpX.here<|rN<|ATodo.stop<|ImpX.freeze .p2<|ImpX.coBox (j := 2) .p1 J (Co.froT .p2) J J<|ImpX.freeze .p3<|ImpX.coBox (j := 5) .p1 J (Co.froT .p3) J J<|ImpX.cellsArr (xs := ([v1.1.1,(⟨v1.1.2.Key,v1.1.2.Prefix,(v1.1.2.Props.set (0 : Int).toNat (⟨v66.Name,v66.Kind,v64.1,v66.High⟩ : PropType)).set (0 : Int).toNat (⟨v67.Name,v67.Kind,v67.Low,v65.1⟩ : PropType)⟩ : Model)] : List Model).map Model.av) e2 .p1 J J J<|ImpX.lq [0,0] ⟨b3,v65.2.L,v65.2.at_,[v1.1.1,(⟨v1.1.2.Key,v1.1.2.Prefix,(v1.1.2.Props.set (0 : Int).toNat (⟨v66.Name,v66.Kind,v64.1,v66.High⟩ : PropType)).set (0 : Int).toNat (⟨v67.Name,v67.Kind,v67.Low,v65.1⟩ : PropType)⟩ : Model)],h,J⟩ J J
                        · exact have h := iteF hc h; tR<|rM J J<|ARun.qv (n_build J J J J J) J<|n_buildSliceL (xs := [.agg [.str ([109,122] : Str),.str ([81,81] : Str),.nil]]) J J J J J J<|ARun.ghost<|ImpX.cox (s := 17) (av' := .list 3 (([(⟨([109,122] : Str),([81,81] : Str),[]⟩ : Model)] : List Model).map Model.av)) J (CoX.listL (.cons .r (.cons .r (.cons .n .nil))) J J)<|ImpX.here<|ARun.ghost<|ImpX.freeze .p2<|ImpX.here<|ARun.ghost<|ImpX.coBox (j := 2) .p1 J (Co.froT .p2) J J<|ImpX.here<|ARun.ghost<|ImpX.freeze .p3<|ImpX.here<|ARun.ghost<|ImpX.coBox (j := 5) .p1 J (Co.froT .p3) J J<|ImpX.here<|ARun.ghost<|ImpX.cellsArr (xs := ([v1.1.1,v1.1.2] : List Model).map Model.av) e2 .p1 J J J<|ImpX.here<|bndE h fun l68 e28 h=>t_append (g := Model.av) J J J J J J J J (.list _) e28 (fun _=>.p1) J fun b69=>rA J J<|rN<|ATodo.stop<|ImpX.lq [0,0] ⟨b69,v41.2.L,v41.2.at_,l68,h,J⟩ J J
                      · rintro σ' ⟨b62, l60, n61, l63, h, rfl⟩
                        unfold Stream_Kinds_j9 at h
                        exact ATodo.stop<|ImpX.lq [0,0] ⟨b62,l60,n61,l63,h,J⟩ J J
                  · rintro σ' ⟨b54, l52, n53, l55, h, rfl⟩
                    unfold Stream_Kinds_j8 at h
                    exact ATodo.stop<|ImpX.lq [0,0] ⟨b54,l52,n53,l55,h,J⟩ J J
              · rintro σ' ⟨b49, l47, n48, l50, h, rfl⟩
                unfold Stream_Kinds_j7 at h
                exact ATodo.stop<|ImpX.lq [0,0] ⟨b49,l47,n48,l50,h,J⟩ J J
          · rintro σ' ⟨b44, l42, n43, l45, h, rfl⟩
            unfold Stream_Kinds_j6 at h
            exact ATodo.blk<|ATodo.stop<|ImpX.lq [0,0] ⟨b44,l42,n43,l45,h,J⟩ J J
        · replace h := iteF hqe17 h
          cases h
    · exact have h := iteFb hc h; tK<|ATodo.stop<|ImpX.freeze .p2<|ImpX.coBox (j := 2) .p1 J (Co.froT .p2) J J<|ImpX.freeze .p3<|ImpX.coBox (j := 5) .p1 J (Co.froT .p3) J J<|ImpX.cellsArr (xs := ([v1.1.1,v1.1.2] : List Model).map Model.av) e2 .p1 J J J<|ImpX.lq [0,0] ⟨b3,v6.2.L,v6.2.at_,[v1.1.1,v1.1.2],h,J⟩ J J
  · rintro σ' ⟨b9, l7, n8, l10, h, rfl⟩
    unfold Stream_Kinds_j1 at h
    refine tSR<|rM J J<|rA J J<|rN<|ATodo.ret<|?_
    obtain rfl := Option.some.inj h
    exact ImpX.freeze .p1<|ImpX.co (s := 2) J (Co.froT .p1)<|ImpX.here ⟨_,.cons (.tmp _ _ J) .nil,_,.cons .p0 .nil,⟨J,J⟩⟩

theorem Q_modelAt_1x_c [GI : GTab] {p0x0 : Model} {p1x0 : Str} {r : Bool} (h : Q_modelAt_1x p0x0 p1x0 = r) : Pu Tryz.prog 154 [Model.av p0x0,.rptr [.str p1x0]] (.bool r) := by
  unfold Q_modelAt_1x at h
  refine ACall.bodyN Tryz.func154 J Tryz.ntmps154 Tryz.results154 J J ?_
  refine tSR<|n_box J J J J fun b1=>rA J J<|rN<|tSR<|rF J J J<|rL J J .p0 J J<|ARun.qv (q_load_rptr J J J) J<|ARun.qv (q_seq J J) J<|rA J J<|rN<|ATodo.ret<|?_
  obtain rfl := h
  exact ImpX.here ⟨_,.cons (.tmp _ _ J) .nil,J⟩

theorem slices_IndexFunc_Model_Model_c [GI : GTab] {p0x0 : List Model} {fnb : Model → Option Bool} {fnb_F : FuncId} [IsFn Tryz.prog fnb_F] {fnb_C : List AV} (fnb_h : ∀ {y0 : _} {u : Bool},fnb y0 = some u → Pu Tryz.prog fnb_F (Model.av y0 ::  fnb_C) (.bool u)) {r : Int} (h : slices_IndexFunc_Model_Model p0x0 fnb = some r) : Pu Tryz.prog 62 [lE3 p0x0,.func (.func fnb_F) fnb_C] (I r) := by
  unfold slices_IndexFunc_Model_Model at h
  refine ACall.bodyN Tryz.func62 J Tryz.ntmps62 Tryz.results62 J J ?_
  refine tSR<|rA J J<|rN<|tS<|tSR<|rM J J<|ARun.qv (t_len J) J<|rM J J<|rN<|ATodo.block<|ATodo.loopI (fun x : Int=>slices_IndexFunc_Model_Model_b1 p0x0 fnb x) (fun x σ'=>σ' = ⟨19,[(0,lE3 p0x0),(1,.func (.func fnb_F) fnb_C),(7,I (p0x0.length : Int)),(8,I x)],[]⟩) h ?_ ?_
  · exact ImpX.lq [] J J J
  · intro n2 z1 σ' J1 hmk h hJ1 hA1
    obtain rfl := hmk
    replace h : slices_IndexFunc_Model_Model_b1 p0x0 fnb n2 = some z1 := h
    unfold slices_IndexFunc_Model_Model_b1 at h
    refine tSR<|ARun.qv (q_lss J J) J<|rN<|tS<|ATodo.cond_d J (fun hc=>?_) (fun hc=>?_)
    · refine have h := iteT hc h; tK<|tS<|ATodo.block<|tSR<|rM J J<|rA J J<|rN<|tSR<|rM J J<|rM J J<|rM J J<|bndE h fun v3 e1 h=>ARun.qv (t_index J J J e1 J J) J<|ARun.qv (q_load_rptr_agg J J J) J<|bndE h fun v4 e2 h=>r_callvp J J (fnb_h e2) (CoL.refl _) J<|rN<|ATodo.cond J (fun hc=>?_) (fun hc=>?_)
      · refine have h := iteT hc h; tSR<|rM J J<|rA J J<|rN<|ATodo.ret<|have h := outL h hA1; ?_
        obtain rfl := Option.some.inj h
        exact ImpX.here ⟨_,.cons (.tmp _ _ J) .nil,J⟩
      · refine have h := iteFb hc h; tK<|ATodo.blk<|tR<|ARun.qv (q_addw J J) J<|rM J J<|rN<|ATodo.stop<|?_
        obtain rfl := Option.some.inj h
        exact hJ1 _ _ J<|ImpX.lq [] J J J
    · refine have h := iteF hc h; ATodo.exit J<|have h := outL h hA1; tSR<|rA J J<|rN<|ATodo.ret<|?_
      obtain rfl := Option.some.inj h
      exact ImpX.here ⟨_,.cons (.tmp _ _ J) .nil,J⟩

theorem Q_modelAt_c [GI : GTab] {p0x0 : List Model} {p1x0 : Str} {r : Int} (h : Q_modelAt p0x0 p1x0 = some r) : Pu Tryz.prog 74 [lE3 p0x0,.str p1x0] (I r) := by
  unfold Q_modelAt at h
  refine ACall.bodyN Tryz.func74 J Tryz.ntmps74 Tryz.results74 J J ?_
  refine tSR<|n_box J J J J fun b1=>rA J J<|rN<|tSR<|rM J J<|ARun.qv (q_makeFunc J) J<|bndE h fun v2 e1 h=>r_callpB J (slices_IndexFunc_Model_Model_c (fun e=>Q_modelAt_1x_c (Option.some.inj e)) e1) (.cons (.co (.refl _)) (.cons (.funcL _ _ _ (.cons (.boxL _ _ _ .p0 (.cons (.co (.refl _)) .nil)) .nil)) .nil)) J J<|rA J J<|rN<|ATodo.ret<|?_
  obtain rfl := Option.some.inj h
  exact ImpX.here ⟨_,.cons (.tmp _ _ J) .nil,J⟩

theorem Q_in_c [GI : GTab] {p0x0 : Int} {p1x0 : Int} {p2x0 : Int} {r : Bool} (h : Q_in p0x0 p1x0 p2x0 = r) : Pu Tryz.prog 66 [I p0x0,I p1x0,I p2x0] (.bool r) := by
  unfold Q_in at h
  refine ACall.bodyN Tryz.func66 J Tryz.ntmps66 Tryz.results66 J J ?_
  refine tSR<|rA J J<|rN<|tS<|ATodo.cut (fun σ'=>∃ (c1 : Bool),Q_in_j1 c1 = r ∧ σ' = ⟨15,[(6,.bool c1)],[]⟩) ?_ ?_
  · refine tR<|rM J J<|rM J J<|ARun.qv (q_leq J J) J<|rM J J<|ARun.guard_dt J J J (fun hc=>?_) (fun hc=>?_)
    · rw [andTd hc] at h
      exact rM J J<|rY J J J<|rM J J<|rY J J J<|ARun.qv (q_leq J J) J<|rT J J J<|rA J J<|rN<|ATodo.stop<|ImpX.lq [] ⟨decide (p0x0 ≤ p2x0),h,J⟩ J J
    · rw [andFd hc] at h
      exact rG J J J J<|rG J J J J<|rE J J J<|rA J J<|rN<|ATodo.stop<|ImpX.lq [] ⟨false,h,J⟩ J J
  · rintro σ' ⟨c1, h, rfl⟩
    unfold Q_in_j1 at h
    refine ATodo.ret<|?_
    obtain rfl := h
    exact ImpX.here ⟨_,.cons (.tmp _ _ J) .nil,J⟩

theorem Q_checkOf_c [GI : GTab] {p0x0 : Str} {r : Str} (h : Q_checkOf p0x0 = some r) : Pu Tryz.prog 155 [.str p0x0] (.str r) := by
  unfold Q_checkOf at h
  refine ACall.bodyN Tryz.func155 J Tryz.ntmps155 Tryz.results155 J J ?_
  refine tSR<|rA J J<|rN<|tSR<|rA J J<|rN<|tS<|tSR<|rM J J<|t_rangeS (s := p0x0) J J fun b1=>rN<|ATodo.block<|ATodo.loopI (fun x : Int × Nat=>Q_checkOf_b1 p0x0 x.1 x.2) (fun x σ'=>σ' = ⟨23,[(3,I x.1),(7,.ptr b1 0)],[(b1,.sit p0x0 x.2)]⟩) h ?_ ?_
  · exact ImpX.lq [0] J J J
  · intro x z1 σ' J1 hmk h hJ1 hA1
    obtain ⟨n4, n5⟩ := x
    obtain rfl := hmk
    replace h : Q_checkOf_b1 p0x0 n4 n5 = some z1 := h
    unfold Q_checkOf_b1 at h
    refine tSR<|t_nextS (s := p0x0) (q := n5) J .p0 J (fun hc=>?_) (fun hc=>?_)
    · refine have h := iteF hc h; rX J J J<|rN<|tS<|ATodo.cond_f J<|ATodo.exit J<|have h := outL h hA1; ?_
      unfold Q_checkOf_k1 at h
      refine tSR<|rM J J<|ARun.qv (q_rem J J (by decide)) J<|bndE h fun c6 e1 h=>ARun.qv (t_index_str J J e1) J<|ARun.qv (q_conv_is J) J<|rA J J<|rN<|ATodo.ret<|?_
      obtain rfl := Option.some.inj h
      exact ImpX.here ⟨_,.cons (.tmp _ _ J) .nil,J⟩
    · refine have h := iteT hc h; rX J J J<|rN<|tS<|ATodo.cond_t J<|tK<|ATodo.block<|tSR<|rX J J J<|rX J J J<|rA J J<|rA J J<|rN<|tR<|rM J J<|rM J J<|ARun.qv (q_addw J J) J<|rM J J<|bndE h fun v7 e2 h=>r_callp J (strings_IndexRune_c e2) (CoL.refl _) J<|ARun.qv (q_mulw J J) J<|ARun.qv (q_addw J J) J<|rA J J<|rN<|ATodo.blk<|ATodo.stop<|?_
      obtain rfl := Option.some.inj h
      exact hJ1 _ _ J<|ImpX.lq [0] J J J

theorem Q_serialOf_c {p0x0 : Str} {p1x0 : Int} {r : Str} (h : Q_serialOf p0x0 p1x0 = some r) : Pu Tryz.prog 75 [.str p0x0,I p1x0] (.str r) := by
  unfold Q_serialOf at h
  refine ACall.bodyN Tryz.func75 J Tryz.ntmps75 Tryz.results75 J J ?_
  refine tSR<|rA J J<|rN<|tSR<|rM J J<|ARun.qv (q_addw J J) J<|bndE h fun v1 e1 h=>r_callp J (strconv_Itoa_c e1) (CoL.refl _) J<|bndE h fun l2 e2 h=>ARun.qv (t_slice_str J (.some _ _ _ J) .none J J e2) J<|rA J J<|rN<|tSR<|rM J J<|bndE h fun q3 e3 h=>ARun.qv (q_sadd e3 J J) J<|rM J J<|bndE h fun q4 e4 h=>ARun.qv (q_sadd e4 J J) J<|bndE h fun q5 e5 h=>ARun.qv (q_sadd e5 J J) J<|rM J J<|rM J J<|bndE h fun q6 e6 h=>ARun.qv (q_sadd e6 J J) J<|bndE h fun v7 e7 h=>r_callp J (Q_checkOf_c e7) (CoL.refl _) J<|bndE h fun q8 e8 h=>ARun.qv (q_sadd e8 J J) J<|rA J J<|rN<|ATodo.ret<|?_
  obtain rfl := Option.some.inj h
  exact ImpX.here ⟨_,.cons (.tmp _ _ J) .nil,J⟩

theorem Q_SerialOf_c {p0x0 : List Model} {p1x0 : Str} {p2x0 : Int} {r : Str × Int} (h : Q_SerialOf p0x0 p1x0 p2x0 = some r) : Pu Tryz.prog 16 [lE3 p0x0,.str p1x0,I p2x0] (.tup [.str r.1,I r.2]) := by
  unfold Q_SerialOf at h
  refine ACall.bodyN Tryz.func16 J Tryz.ntmps16 Tryz.results16 J J ?_
  refine tSR<|rA J J<|rA J J<|rN<|tSR<|rM J J<|rM J J<|bndE h fun v1 e1 h=>r_callp J (Q_modelAt_c e1) (CoL.refl _) J<|rA J J<|rN<|tS<|ATodo.block<|tSR<|rM J J<|ARun.qv (q_lss J J) J<|rA J J<|rN<|ATodo.cond_d J (fun hc=>?_) (fun hc=>?_)
  · refine have h := iteT hc h; tSR<|rA J J<|rA J J<|rN<|ATodo.ret<|?_
    obtain rfl := Option.some.inj h
    exact ImpX.here ⟨_,.cons (.tmp _ _ J) (.cons (.tmp _ _ J) .nil),J⟩
  · refine have h := iteF hc h; tSR<|rM J J<|r_callp J (Q_in_c J) (CoL.refl _) J<|ARun.qv (q_not J) J<|rA J J<|rN<|ATodo.cond J (fun hc=>?_) (fun hc=>?_)
    · refine have h := iteT hc h; tSR<|rA J J<|rA J J<|rN<|ATodo.ret<|?_
      obtain rfl := Option.some.inj h
      exact ImpX.here ⟨_,.cons (.tmp _ _ J) (.cons (.tmp _ _ J) .nil),J⟩
    · refine have h := iteFb hc h; tK<|ATodo.blk<|tSR<|rM J J<|rM J J<|bndE h fun v2 e2 h=>ARun.qv (t_index J J J e2 J J) J<|ARun.qv (n_field_rptr J J) J<|ARun.qv (q_load_rptr J J J) J<|rM J J<|bndE h fun v3 e3 h=>r_callp J (Q_serialOf_c e3) (CoL.refl _) J<|rA J J<|rA J J<|rN<|ATodo.ret<|?_
      obtain rfl := Option.some.inj h
      exact ImpX.here ⟨_,.cons (.tmp _ _ J) (.cons (.tmp _ _ J) .nil),J⟩

theorem Stream_Changed_c [GI : GTab] {b_0 : Bk} {p0x0 : Fleetmake_Stream} {p1x0 : Str} {p2x0 : Str} {r : Str × Fleetmake_Stream} (h : Stream_Changed p0x0 p1x0 p2x0 = some r) : ACall Tryz.prog 52 [.ptr b_0 0,.str p1x0,.str p2x0] [(b_0,.cells [lE0 p0x0.L,I p0x0.at_])] (T0 ([(b_0,.cells [lE0 r.2.L,I r.2.at_])]) (.str r.1)) := by
  unfold Stream_Changed at h
  refine ACall.lessH ?_
  refine ACall.bodyN Tryz.func52 J Tryz.ntmps52 Tryz.results52 J J ?_
  refine tSR<|rA J J<|rN<|tS<|tS<|ATodo.cut (fun σ'=>∃ (c1 : Bool),Stream_Changed_j1 p0x0 p1x0 p2x0 c1 = some r ∧ σ' = ⟨63,[(0,.ptr b_0 0),(1,.str p1x0),(2,.str p2x0),(14,.bool c1)],[(b_0,.cells [lE0 p0x0.L,I p0x0.at_])]⟩) ?_ ?_
  · refine tR<|rM J J<|ARun.qv (q_seq J J) J<|rM J J<|ARun.guard_df J J J (fun hc=>?_) (fun hc=>?_)
    · rw [orFd hc] at h
      exact rM J J<|rY J J J<|ARun.qv (q_seq J J) J<|rE J J J<|rN<|ATodo.stop<|ImpX.lq [0] ⟨decide (p2x0 = ([] : Str)),h,J⟩ J J
    · rw [orTd hc] at h
      exact rG J J J J<|rT J J J<|rN<|ATodo.stop<|ImpX.lq [0] ⟨true,h,J⟩ J J
  · rintro σ' ⟨c1, h, rfl⟩
    unfold Stream_Changed_j1 at h
    refine ATodo.cond J (fun hc=>?_) (fun hc=>?_)
    · refine have h := iteT hc h; tSR<|rM J J<|rA J J<|rN<|ATodo.ret<|?_
      obtain rfl := Option.some.inj h
      exact ImpX.here ⟨_,.cons (.tmp _ _ J) .nil,_,.cons .p0 .nil,⟨J,J⟩⟩
    · refine have h := iteFb hc h; tK<|tSR<|rM J J<|rM J J<|ARun.qv (q_len_str J) J<|bndE h fun v2 e1 h=>t_call0 J (Stream_Next_c e1) (CoL.refl _) (.cons .p0 .nil) J J<|rA J J<|rN<|tSR<|rM J J<|rM J J<|rM J J<|ARun.qv (q_len_str J) J<|bndE h fun v3 e2 h=>t_call0 J (Stream_Next_c e2) (CoL.refl _) (.cons .p0 .nil) J J<|bndE h fun c4 e3 h=>ARun.qv (t_index_str J J e3) J<|rA J J<|rN<|tS<|tSR<|rM J J<|bndE h fun v5 e4 h=>t_call0 J (Stream_Next_c e4) (CoL.refl _) (.cons .p0 .nil) J J<|rN<|ATodo.block<|tSR<|ARun.qv (q_eql J J) J<|rA J J<|rN<|ATodo.cond_d J (fun hc=>?_) (fun hc=>?_)
      · refine have h := iteT hc h; tS<|ATodo.regionM (id := 7) (A := [0,0,3,0,8,24,63,0,0,256,896,2047,4095]) 13 mixed J (by kernel_rfl) (by kernel_rfl)<|AM.qv (q_move J) J<|AM.qv (q_move J) J<|bndE h fun l6 e5 h=>AM.qv (t_slice_str J .none (.some _ _ _ J) J J e5) J<|AM.qv (q_move J) J<|AM.qv (q_conv_int J) J<|AM.qv (q_conv_is J) J<|bndE h fun q7 e6 h=>AM.qv (q_sadd e6 J J) J<|AM.qv (q_move J) J<|AM.qv (q_move J) J<|AM.qv (q_addw J J) J<|bndE h fun l8 e7 h=>AM.qv (t_slice_str J (.some _ _ _ J) .none J J e7) J<|bndE h fun q9 e8 h=>AM.qv (q_sadd e8 J J) J<|AM.qv (q_assign J) J<|AM.nil<|rN<|ATodo.ret<|?_
        obtain rfl := Option.some.inj h
        exact ImpX.here ⟨_,.cons (.tmp _ _ J) .nil,_,.cons .p0 .nil,⟨J,J⟩⟩
      · refine have h := iteF hc h; tSR<|ARun.qv (q_eql J J) J<|rA J J<|rN<|ATodo.cond_d J (fun hc=>?_) (fun hc=>?_)
        · refine have h := iteT hc h; tS<|ATodo.regionM (id := 9) (A := [0,0,3,0,8,24,63,0,0,384,1023,2047]) 12 mixed J (by kernel_rfl) (by kernel_rfl)<|AM.qv (q_move J) J<|AM.qv (q_move J) J<|bndE h fun l10 e9 h=>AM.qv (t_slice_str J .none (.some _ _ _ J) J J e9) J<|AM.qv (q_move J) J<|AM.qv (q_conv_int J) J<|AM.qv (q_conv_is J) J<|bndE h fun q11 e10 h=>AM.qv (q_sadd e10 J J) J<|AM.qv (q_move J) J<|AM.qv (q_move J) J<|bndE h fun l12 e11 h=>AM.qv (t_slice_str J (.some _ _ _ J) .none J J e11) J<|bndE h fun q13 e12 h=>AM.qv (q_sadd e12 J J) J<|AM.qv (q_assign J) J<|AM.nil<|rN<|ATodo.ret<|?_
          obtain rfl := Option.some.inj h
          exact ImpX.here ⟨_,.cons (.tmp _ _ J) .nil,_,.cons .p0 .nil,⟨J,J⟩⟩
        · refine have h := iteF hc h; tK<|ATodo.blk<|tS<|ATodo.regionM (id := 10) (A := [0,0,3,0,0,16,56,127,255]) 9 mixed J (by kernel_rfl) (by kernel_rfl)<|AM.qv (q_move J) J<|AM.qv (q_move J) J<|bndE h fun l14 e13 h=>AM.qv (t_slice_str J .none (.some _ _ _ J) J J e13) J<|AM.qv (q_move J) J<|AM.qv (q_move J) J<|AM.qv (q_addw J J) J<|bndE h fun l15 e14 h=>AM.qv (t_slice_str J (.some _ _ _ J) .none J J e14) J<|bndE h fun q16 e15 h=>AM.qv (q_sadd e15 J J) J<|AM.qv (q_assign J) J<|AM.nil<|rN<|ATodo.ret<|?_
          obtain rfl := Option.some.inj h
          exact ImpX.here ⟨_,.cons (.tmp _ _ J) .nil,_,.cons .p0 .nil,⟨J,J⟩⟩

theorem Stream_SerialText_c {b_0 : Bk} {p0x0 : Fleetmake_Stream} {p1x0 : List Model} {r : Str × Fleetmake_Stream} (h : Stream_SerialText p0x0 p1x0 = some r) : ACall Tryz.prog 10 [.ptr b_0 0,lE3 p1x0] [(b_0,.cells [lE0 p0x0.L,I p0x0.at_])] (T0 ([(b_0,.cells [lE0 r.2.L,I r.2.at_])]) (.str r.1)) := by
  unfold Stream_SerialText at h
  refine ACall.lessH ?_
  refine ACall.bodyN Tryz.func10 J Tryz.ntmps10 Tryz.results10 J J ?_
  refine tSR<|rA J J<|rN<|tSR<|rA J J<|rN<|tS<|tSR<|rM J J<|ARun.qv (t_len J) J<|ARun.qv (q_gtr J J) J<|rN<|ATodo.cut (fun σ'=>∃ (l1 : List Int) (n2 : Int) (q3 : Str),Stream_SerialText_j1 l1 n2 q3 = some r ∧ σ' = ⟨44,[(0,.ptr b_0 0),(5,.str q3)],[(b_0,.cells [lE0 l1,I n2])]⟩) ?_ ?_
  · refine ATodo.cond_d J (fun hc=>?_) (fun hc=>?_)
    · refine have h := iteT hc h; tS<|bndE h fun v4 e1 h=>bndE h fun v5 e2 h=>bndE h fun v6 e3 h=>bndE h fun v7 e4 h=>ATodo.regionT (id := 3) (A := [0,0,0,0,8,28,62,126,254,0,0,1596,4095,8191,16383,16383,32767,131071]) (H0 := [(b_0,.cells [lE0 p0x0.L,I p0x0.at_])]) (HH := fun β=>[(b_0,.cells [lE0 v6.2.L,I v6.2.at_])]) 17 mixed J (by kernel_rfl) (by kernel_rfl) [⟨none,some 5,[],fun _=>(b_0,.cells [lE0 p0x0.L,I p0x0.at_]),none,[]⟩,⟨some 5,some 11,[],fun _=>(b_0,.cells [lE0 v4.2.L,I v4.2.at_]),none,[]⟩,⟨some 11,none,[],fun _=>(b_0,.cells [lE0 v6.2.L,I v6.2.at_]),none,[]⟩] [] J (by kernel_rfl) J (.cons .p0 .nil) (fun _=>J)<|AT.am 5 J J<|AM.qv (q_move J) J<|AM.qv (q_move J) J<|AM.qv (q_move J) J<|AM.qv (q_move J) J<|AM.qv (t_len J) J<|AM.nil<|AT.runS (av := I v4.1) (Ti := [(b_0,.cells [lE0 p0x0.L,I p0x0.at_])]) (Pi := [(b_0,.cells [lE0 v4.2.L,I v4.2.at_])]) (fun _=>J) (fun _=>J) (fun _=>J) J J J ?_ ?_
      · exact t_call0 J (Stream_Next_c e1) (CoL.refl _) (.cons .p0 .nil) J J<|ARun.nil ⟨_,J,J⟩
      refine AT.am 5 J J<|AM.qv (t_index J J J e2 J J) J<|AM.qv (n_field_rptr J J) J<|AM.qv (q_load_rptr J J J) J<|AM.qv (q_move J) J<|AM.buildSliceL (xs := ([(1 : Int),(7 : Int),(99 : Int),(12345678 : Int)]).map I) J J J J J J<|AM.nil<|AT.runS (av := I v6.1) (Ti := [(b_0,.cells [lE0 v4.2.L,I v4.2.at_])]) (Pi := [(b_0,.cells [lE0 v6.2.L,I v6.2.at_])]) (fun _=>J) (fun _=>J) (fun _=>J) J J J ?_ ?_
      · exact t_call0 J (Stream_Pick_c e3) (CoL.refl _) (.cons .p0 .nil) J J<|ARun.nil ⟨_,J,J⟩
      refine AT.am 5 J J<|AM.callp J (Q_SerialOf_c e4) (CoL.refl _) J<|AM.qv (q_move J) J<|AM.qv (q_extract J J) J<|AM.qv (q_extract J J) J<|AM.qv (q_assign J) J<|AM.nil<|AT.nilN (fun _=>J) fun β=>rA J J<|rN<|tSR<|rM J J<|ARun.qv (q_eql J J) J<|rN<|ATodo.cut (fun σ'=>∃ (q8 : Str),Stream_SerialText_j2 v6 q8 = some r ∧ σ' = ⟨44,[(0,.ptr b_0 0),(5,.str q8)],[(b_0,.cells [lE0 v6.2.L,I v6.2.at_])]⟩) ?_ ?_
      · refine ATodo.cond_d J (fun hc=>?_) (fun hc=>?_)
        · exact have h := iteT hc h; tR<|rM J J<|rA J J<|rN<|ATodo.stop<|ImpX.lq [0] ⟨v7.1,h,J⟩ J J
        · exact have h := iteF hc h; tK<|ATodo.stop<|ImpX.lq [0] ⟨([65,66,45,48,48,48,48,48,48,48,55,45,77] : Str),h,J⟩ J J
      · rintro σ' ⟨q8, h, rfl⟩
        unfold Stream_SerialText_j2 at h
        exact ATodo.stop<|ImpX.lq [0] ⟨v6.2.L,v6.2.at_,q8,h,J⟩ J J
    · exact have h := iteF hc h; tK<|ATodo.stop<|ImpX.lq [0] ⟨p0x0.L,p0x0.at_,([65,66,45,48,48,48,48,48,48,48,55,45,77] : Str),h,J⟩ J J
  · rintro σ' ⟨l1, n2, q3, h, rfl⟩
    unfold Stream_SerialText_j1 at h
    refine tS<|tSR<|rM J J<|bndE h fun v9 e5 h=>t_call0 J (Stream_Flip_c e5) (CoL.refl _) (.cons .p0 .nil) J J<|rN<|ATodo.cut (fun σ'=>∃ (q10 : Str),Stream_SerialText_j3 v9 q10 = some r ∧ σ' = ⟨44,[(0,.ptr b_0 0),(5,.str q10)],[(b_0,.cells [lE0 v9.2.L,I v9.2.at_])]⟩) ?_ ?_
    · refine ATodo.cond J (fun hc=>?_) (fun hc=>?_)
      · exact have h := iteT hc h; tR<|rM J J<|bndE h fun v11 e6 h=>r_callp J (strings_ToLower_c e6) (CoL.refl _) J<|rA J J<|rN<|ATodo.stop<|ImpX.lq [0] ⟨v11,h,J⟩ J J
      · exact have h := iteFb hc h; tK<|ATodo.stop<|ImpX.lq [0] ⟨q3,h,J⟩ J J
    · rintro σ' ⟨q10, h, rfl⟩
      unfold Stream_SerialText_j3 at h
      refine tS<|tSR<|rM J J<|n_buildSliceL (xs := ([(0 : Int),(0 : Int),(1 : Int)]).map I) J J J J J J<|bndE h fun v12 e7 h=>t_call0 J (Stream_Pick_c e7) (CoL.refl _) (.cons .p0 .nil) J J<|rM J J<|rN<|ATodo.block<|ATodo.loopI (fun x : (List Int) × Int × Str × Int=>Stream_SerialText_b1 v12 x.1 x.2.1 x.2.2.1 x.2.2.2) (fun x σ'=>σ' = ⟨44,[(0,.ptr b_0 0),(5,.str x.2.2.1),(36,I v12.1),(37,I x.2.2.2)],[(b_0,.cells [lE0 x.1,I x.2.1])]⟩) h ?_ ?_
      · exact ImpX.lq [0] J J J
      · intro x z1 σ' J1 hmk h hJ1 hA1
        obtain ⟨l17, n18, q19, n20⟩ := x
        obtain rfl := hmk
        replace h : Stream_SerialText_b1 v12 l17 n18 q19 n20 = some z1 := h
        unfold Stream_SerialText_b1 at h
        refine tSR<|ARun.qv (q_lss J J) J<|rN<|tS<|ATodo.cond_d J (fun hc=>?_) (fun hc=>?_)
        · refine have h := iteT hc h; tK<|tS<|ATodo.block<|tR<|rM J J<|rM J J<|bndE h fun v21 e8 h=>t_call0 J (Stream_Changed_c e8) (CoL.refl _) (.cons .p0 .nil) J J<|rA J J<|rN<|ATodo.blk<|tR<|ARun.qv (q_addw J J) J<|rM J J<|rN<|ATodo.stop<|?_
          obtain rfl := Option.some.inj h
          exact hJ1 _ _ J<|ImpX.lq [0] J J J
        · refine have h := iteF hc h; ATodo.exit J<|have h := outL h hA1; tSR<|rM J J<|rA J J<|rN<|ATodo.ret<|?_
          obtain rfl := Option.some.inj h
          exact ImpX.here ⟨_,.cons (.tmp _ _ J) .nil,_,.cons .p0 .nil,⟨J,J⟩⟩

theorem base_Key_c [GI : GTab] {p0x0 : Str} {r : Bool} (h : base_Key p0x0 = some r) : Pu Tryz.prog 71 [.str p0x0] (.bool r) := by
  unfold base_Key at h
  refine ACall.bodyN Tryz.func71 J Tryz.ntmps71 Tryz.results71 J J ?_
  refine tSR<|rA J J<|rN<|tS<|tS<|ATodo.cut (fun σ'=>∃ (c1 : Bool),base_Key_j1 p0x0 c1 = some r ∧ σ' = ⟨54,[(0,.str p0x0),(21,.bool c1)],[]⟩) ?_ ?_
  · refine tR<|rM J J<|ARun.qv (q_seq J J) J<|rM J J<|ARun.guard_df J J J (fun hc=>?_) (fun hc=>?_)
    · refine have h := iteF hc h; rM J J<|rY J J J<|ARun.qv (q_len_str J) J<|rY J J J<|ARun.qv (q_gtr J J) J<|rE J J J<|rM J J<|ARun.guard_df J J J (fun hc=>?_) (fun hc=>?_)
      · refine have h := iteF hc h; rM J J<|rY J J J<|bndE h fun c2 e1 h=>ARun.qv (t_index_str J J e1) J<|rY J J J<|ARun.qv (q_lss J J) J<|rE J J J<|rM J J<|ARun.guard_df J J J (fun hc=>?_) (fun hc=>?_)
        · exact have h := iteF hc h; rM J J<|rY J J J<|bndE h fun c3 e2 h=>ARun.qv (t_index_str J J e2) J<|rY J J J<|ARun.qv (q_gtr J J) J<|rE J J J<|rN<|ATodo.stop<|ImpX.lq [] ⟨decide ((122 : Int) < (c3.toNat : Int)),h,J⟩ J J
        · exact have h := iteT hc h; rG J J J J<|rG J J J J<|rT J J J<|rN<|ATodo.stop<|ImpX.lq [] ⟨true,h,J⟩ J J
      · exact have h := iteT hc h; rG J J J J<|rG J J J J<|rT J J J<|rM J J<|rG J J J J<|rG J J J J<|rG J J J J<|rT J J J<|rN<|ATodo.stop<|ImpX.lq [] ⟨true,h,J⟩ J J
    · exact have h := iteT hc h; rG J J J J<|rG J J J J<|rT J J J<|rM J J<|rG J J J J<|rG J J J J<|rG J J J J<|rT J J J<|rM J J<|rG J J J J<|rG J J J J<|rG J J J J<|rT J J J<|rN<|ATodo.stop<|ImpX.lq [] ⟨true,h,J⟩ J J
  · rintro σ' ⟨c1, h, rfl⟩
    unfold base_Key_j1 at h
    refine ATodo.cond J (fun hc=>?_) (fun hc=>?_)
    · refine have h := iteT hc h; tSR<|rA J J<|rN<|ATodo.ret<|?_
      obtain rfl := Option.some.inj h
      exact ImpX.here ⟨_,.cons (.tmp _ _ J) .nil,J⟩
    · refine have h := iteFb hc h; tK<|tS<|tSR<|rM J J<|ARun.qv (q_len_str J) J<|rM J J<|rN<|ATodo.block<|ATodo.loopI (fun x : Int=>base_Key_b1 p0x0 x) (fun x σ'=>σ' = ⟨54,[(0,.str p0x0),(23,I (p0x0.length : Int)),(24,I x)],[]⟩) h ?_ ?_
      · exact ImpX.lq [] J J J
      · intro n5 z1 σ' J1 hmk h hJ1 hA1
        obtain rfl := hmk
        replace h : base_Key_b1 p0x0 n5 = some z1 := h
        unfold base_Key_b1 at h
        refine tSR<|ARun.qv (q_lss J J) J<|rN<|tS<|ATodo.cond_d J (fun hc=>?_) (fun hc=>?_)
        · refine have h := iteT hc h; tK<|tS<|ATodo.block<|tSR<|rM J J<|rA J J<|rN<|tSR<|rM J J<|rM J J<|bndE h fun c6 e3 h=>ARun.qv (t_index_str J J e3) J<|rA J J<|rN<|tS<|ATodo.cut (fun σ'=>∃ (c7 : Bool),base_Key_j2 n5 c7 = some z1 ∧ σ' = ⟨54,[(0,.str p0x0),(23,I (p0x0.length : Int)),(24,I n5),(52,.bool c7)],[]⟩) ?_ ?_
          · refine tR<|rM J J<|ARun.qv (q_geq J J) J<|rM J J<|ARun.guard_dt J J J (fun hc=>?_) (fun hc=>?_)
            · rw [if_pos hc] at h
              refine rM J J<|rY J J J<|ARun.qv (q_leq J J) J<|rT J J J<|rM J J<|ARun.guard_df J J J (fun hc=>?_) (fun hc=>?_)
              · rw [if_neg hc] at h
                refine rM J J<|rY J J J<|ARun.qv (q_geq J J) J<|rY J J J<|rM J J<|ARun.guard_dt J J J (fun hc=>?_) (fun hc=>?_)
                · rw [if_pos hc] at h
                  refine rM J J<|rY J J J<|ARun.qv (q_leq J J) J<|rY J J J<|rT J J J<|rE J J J<|rM J J<|ARun.guard_df J J J (fun hc=>?_) (fun hc=>?_)
                  · rw [if_neg hc] at h
                    refine rM J J<|rY J J J<|ARun.qv (q_eql J J) J<|rE J J J<|rM J J<|ARun.guard_df J J J (fun hc=>?_) (fun hc=>?_)
                    · rw [if_neg hc] at h
                      exact rM J J<|rY J J J<|ARun.qv (q_eql J J) J<|rE J J J<|ARun.qv (q_not_d J) J<|rN<|ATodo.stop<|ImpX.lq [] ⟨decide (¬ ((c6.toNat : Int) = (95 : Int))),h,J⟩ J J
                    · rw [if_pos hc] at h
                      exact rG J J J J<|rT J J J<|ARun.qv (q_not J) J<|rN<|ATodo.stop<|ImpX.lq [] ⟨!true,h,J⟩ J J
                  · rw [if_pos hc] at h
                    exact rG J J J J<|rT J J J<|rM J J<|rG J J J J<|rG J J J J<|rT J J J<|ARun.qv (q_not J) J<|rN<|ATodo.stop<|ImpX.lq [] ⟨!true,h,J⟩ J J
                · rw [if_neg hc] at h
                  refine rG J J J J<|rY J J J<|rE J J J<|rE J J J<|rM J J<|rY J J J<|rM J J<|rY J J J<|ARun.qv (q_eql J J) J<|rE J J J<|rM J J<|ARun.guard_df J J J (fun hc=>?_) (fun hc=>?_)
                  · rw [if_neg hc] at h
                    exact rM J J<|rY J J J<|ARun.qv (q_eql J J) J<|rE J J J<|ARun.qv (q_not_d J) J<|rN<|ATodo.stop<|ImpX.lq [] ⟨decide (¬ ((c6.toNat : Int) = (95 : Int))),h,J⟩ J J
                  · rw [if_pos hc] at h
                    exact rG J J J J<|rT J J J<|ARun.qv (q_not J) J<|rN<|ATodo.stop<|ImpX.lq [] ⟨!true,h,J⟩ J J
              · rw [if_pos hc] at h
                exact rG J J J J<|rG J J J J<|ARun.guard_und J J J<|ARun.guard_und J J J<|rG J J J J<|rT J J J<|rM J J<|rG J J J J<|rG J J J J<|rT J J J<|rM J J<|rG J J J J<|rG J J J J<|rT J J J<|ARun.qv (q_not J) J<|rN<|ATodo.stop<|ImpX.lq [] ⟨!true,h,J⟩ J J
            · rw [if_neg hc] at h
              refine rG J J J J<|rE J J J<|rM J J<|rY J J J<|rM J J<|rY J J J<|ARun.qv (q_geq J J) J<|rY J J J<|rM J J<|ARun.guard_dt J J J (fun hc=>?_) (fun hc=>?_)
              · rw [if_pos hc] at h
                refine rM J J<|rY J J J<|ARun.qv (q_leq J J) J<|rY J J J<|rT J J J<|rE J J J<|rM J J<|ARun.guard_df J J J (fun hc=>?_) (fun hc=>?_)
                · rw [if_neg hc] at h
                  refine rM J J<|rY J J J<|ARun.qv (q_eql J J) J<|rE J J J<|rM J J<|ARun.guard_df J J J (fun hc=>?_) (fun hc=>?_)
                  · rw [if_neg hc] at h
                    exact rM J J<|rY J J J<|ARun.qv (q_eql J J) J<|rE J J J<|ARun.qv (q_not_d J) J<|rN<|ATodo.stop<|ImpX.lq [] ⟨decide (¬ ((c6.toNat : Int) = (95 : Int))),h,J⟩ J J
                  · rw [if_pos hc] at h
                    exact rG J J J J<|rT J J J<|ARun.qv (q_not J) J<|rN<|ATodo.stop<|ImpX.lq [] ⟨!true,h,J⟩ J J
                · rw [if_pos hc] at h
                  exact rG J J J J<|rT J J J<|rM J J<|rG J J J J<|rG J J J J<|rT J J J<|ARun.qv (q_not J) J<|rN<|ATodo.stop<|ImpX.lq [] ⟨!true,h,J⟩ J J
              · rw [if_neg hc] at h
                refine rG J J J J<|rY J J J<|rE J J J<|rE J J J<|rM J J<|rY J J J<|rM J J<|rY J J J<|ARun.qv (q_eql J J) J<|rE J J J<|rM J J<|ARun.guard_df J J J (fun hc=>?_) (fun hc=>?_)
                · rw [if_neg hc] at h
                  exact rM J J<|rY J J J<|ARun.qv (q_eql J J) J<|rE J J J<|ARun.qv (q_not_d J) J<|rN<|ATodo.stop<|ImpX.lq [] ⟨decide (¬ ((c6.toNat : Int) = (95 : Int))),h,J⟩ J J
                · rw [if_pos hc] at h
                  exact rG J J J J<|rT J J J<|ARun.qv (q_not J) J<|rN<|ATodo.stop<|ImpX.lq [] ⟨!true,h,J⟩ J J
          · rintro σ' ⟨c7, h, rfl⟩
            unfold base_Key_j2 at h
            refine ATodo.cond J (fun hc=>?_) (fun hc=>?_)
            · refine have h := iteT hc h; tSR<|rA J J<|rN<|ATodo.ret<|have h := outL h hA1; ?_
              obtain rfl := Option.some.inj h
              exact ImpX.here ⟨_,.cons (.tmp _ _ J) .nil,J⟩
            · refine have h := iteFb hc h; tK<|ATodo.blk<|tR<|ARun.qv (q_addw J J) J<|rM J J<|rN<|ATodo.stop<|?_
              obtain rfl := Option.some.inj h
              exact hJ1 _ _ J<|ImpX.lq [] J J J
        · refine have h := iteF hc h; ATodo.exit J<|have h := outL h hA1; tSR<|rA J J<|rN<|ATodo.ret<|?_
          obtain rfl := Option.some.inj h
          exact ImpX.here ⟨_,.cons (.tmp _ _ J) .nil,J⟩

theorem base_Out_c [GI : GTab] {p0x0 : Int} {p1x0 : Int} {p2x0 : Int} {r : Bool} (h : base_Out p0x0 p1x0 p2x0 = r) : Pu Tryz.prog 54 [I p0x0,I p1x0,I p2x0] (.bool r) := by
  unfold base_Out at h
  refine ACall.bodyN Tryz.func54 J Tryz.ntmps54 Tryz.results54 J J ?_
  refine tSR<|rA J J<|rN<|tS<|ATodo.cut (fun σ'=>∃ (c1 : Bool),base_Out_j1 c1 = r ∧ σ' = ⟨15,[(6,.bool c1)],[]⟩) ?_ ?_
  · refine tR<|rM J J<|rM J J<|ARun.qv (q_lss J J) J<|rM J J<|ARun.guard_df J J J (fun hc=>?_) (fun hc=>?_)
    · rw [orFd hc] at h
      exact rM J J<|rY J J J<|rM J J<|rY J J J<|ARun.qv (q_gtr J J) J<|rE J J J<|rA J J<|rN<|ATodo.stop<|ImpX.lq [] ⟨decide (p2x0 < p0x0),h,J⟩ J J
    · rw [orTd hc] at h
      exact rG J J J J<|rG J J J J<|rT J J J<|rA J J<|rN<|ATodo.stop<|ImpX.lq [] ⟨true,h,J⟩ J J
  · rintro σ' ⟨c1, h, rfl⟩
    unfold base_Out_j1 at h
    refine ATodo.ret<|?_
    obtain rfl := h
    exact ImpX.here ⟨_,.cons (.tmp _ _ J) .nil,J⟩

theorem device_isPrefix_c {p0x0 : Str} {r : Bool} (h : device_isPrefix p0x0 = some r) : Pu Tryz.prog 60 [.str p0x0] (.bool r) := by
  unfold device_isPrefix at h
  refine ACall.bodyN Tryz.func60 J Tryz.ntmps60 Tryz.results60 J J ?_
  refine tSR<|rA J J<|rN<|tS<|ATodo.cut (fun σ'=>∃ (c1 : Bool),device_isPrefix_j1 c1 = some r ∧ σ' = ⟨12,[(2,.bool c1)],[]⟩) ?_ ?_
  · refine tR<|rM J J<|ARun.qv (q_len_str J) J<|r_callp J (base_Out_c J) (CoL.refl _) J<|ARun.qv (q_not J) J<|rM J J<|ARun.guard J J J (fun hc=>?_) (fun hc=>?_)
    · exact have h := iteT hc h; rM J J<|rY J J J<|bndE h fun v2 e1 h=>r_callp J (strings_Trim_c e1) (CoL.refl _) J<|rY J J J<|ARun.qv (q_seq J J) J<|rT J J J<|rA J J<|rN<|ATodo.stop<|ImpX.lq [] ⟨decide (v2 = ([] : Str)),h,J⟩ J J
    · exact have h := iteFb hc h; rG J J J J<|rG J J J J<|rE J J J<|rA J J<|rN<|ATodo.stop<|ImpX.lq [] ⟨false,h,J⟩ J J
  · rintro σ' ⟨c1, h, rfl⟩
    unfold device_isPrefix_j1 at h
    refine ATodo.ret<|?_
    obtain rfl := Option.some.inj h
    exact ImpX.here ⟨_,.cons (.tmp _ _ J) .nil,J⟩

theorem device_CheckModels_1x_c [GI : GTab] {p0x0 : Model} {p1x0 : Model} {r : Bool} (h : device_CheckModels_1x p0x0 p1x0 = r) : Pu Tryz.prog 72 [Model.av p0x0,.rptr [.str p1x0.Key,.str p1x0.Prefix,lE2 p1x0.Props]] (.bool r) := by
  unfold device_CheckModels_1x at h
  refine ACall.bodyN Tryz.func72 J Tryz.ntmps72 Tryz.results72 J J ?_
  refine tSR<|n_box J J J J fun b1=>rA J J<|rN<|tSR<|rF J J J<|rL J J .p0 J J<|ARun.qv (n_field_rptr J J) J<|ARun.qv (q_load_rptr J J J) J<|ARun.qv (q_seq J J) J<|rA J J<|rN<|ATodo.ret<|?_
  obtain rfl := h
  exact ImpX.here ⟨_,.cons (.tmp _ _ J) .nil,J⟩

theorem slices_ContainsFunc_Model_Model_c [GI : GTab] {p0x0 : List Model} {fnb : Model → Option Bool} {fnb_F : FuncId} [IsFn Tryz.prog fnb_F] {fnb_C : List AV} (fnb_h : ∀ {y0 : _} {u : Bool},fnb y0 = some u → Pu Tryz.prog fnb_F (Model.av y0 ::  fnb_C) (.bool u)) {r : Bool} (h : slices_ContainsFunc_Model_Model p0x0 fnb = some r) : Pu Tryz.prog 68 [lE3 p0x0,.func (.func fnb_F) fnb_C] (.bool r) := by
  unfold slices_ContainsFunc_Model_Model at h
  refine ACall.bodyN Tryz.func68 J Tryz.ntmps68 Tryz.results68 J J ?_
  refine tSR<|rA J J<|rN<|tSR<|rM J J<|rM J J<|bndE h fun v1 e1 h=>r_callpB J (slices_IndexFunc_Model_Model_c fnb_h e1) (.cons (.co (.refl _)) (.cons (.co (.refl _)) .nil)) J J<|ARun.qv (q_geq J J) J<|rA J J<|rN<|ATodo.ret<|?_
  obtain rfl := Option.some.inj h
  exact ImpX.here ⟨_,.cons (.tmp _ _ J) .nil,J⟩

theorem base_Dotted_c {p0x0 : Str} {p1x0 : Int} {r : Bool} (h : base_Dotted p0x0 p1x0 = some r) : Pu Tryz.prog 208 [.str p0x0,I p1x0] (.bool r) := by
  unfold base_Dotted at h
  refine ACall.bodyN Tryz.func208 J Tryz.ntmps208 Tryz.results208 J J ?_
  refine tSR<|rA J J<|rN<|tS<|tSR<|rA J J<|rN<|ATodo.block<|ATodo.loopI (fun x : Str × Int=>base_Dotted_b1 p1x0 x.1 x.2) (fun x σ'=>σ' = ⟨26,[(0,.str x.1),(1,I p1x0),(5,I x.2)],[]⟩) h ?_ ?_
  · exact ImpX.lq [] J J J
  · intro x z1 σ' J1 hmk h hJ1 hA1
    obtain ⟨q3, n4⟩ := x
    obtain rfl := hmk
    replace h : base_Dotted_b1 p1x0 q3 n4 = some z1 := h
    unfold base_Dotted_b1 at h
    refine tS<|tSR<|rM J J<|rM J J<|ARun.qv (q_lss J J) J<|rN<|ATodo.cond_d J (fun hc=>?_) (fun hc=>?_)
    · refine have h := iteT hc h; tK<|tS<|ATodo.block<|tSR<|rM J J<|bndE h fun v5 e1 h=>r_callp J (strings_Cut_c e1) (CoL.refl _) J<|rM J J<|rX J J J<|rX J J J<|rX J J J<|rA J J<|rA J J<|rA J J<|rN<|tS<|tSR<|rM J J<|bndE h fun v6 e2 h=>r_callp J (base_Key_c e2) (CoL.refl _) J<|ARun.qv (q_not J) J<|rN<|ATodo.cond J (fun hc=>?_) (fun hc=>?_)
      · refine have h := iteT hc h; tSR<|rA J J<|rN<|ATodo.ret<|have h := outL h hA1; ?_
        obtain rfl := Option.some.inj h
        exact ImpX.here ⟨_,.cons (.tmp _ _ J) .nil,J⟩
      · refine have h := iteFb hc h; tK<|tS<|tSR<|rM J J<|ARun.qv (q_not J) J<|rN<|ATodo.cond J (fun hc=>?_) (fun hc=>?_)
        · refine have h := iteT hc h; tSR<|rA J J<|rN<|ATodo.ret<|have h := outL h hA1; ?_
          obtain rfl := Option.some.inj h
          exact ImpX.here ⟨_,.cons (.tmp _ _ J) .nil,J⟩
        · refine have h := iteFb hc h; tK<|tR<|rM J J<|rA J J<|rN<|ATodo.blk<|tR<|rM J J<|ARun.qv (q_addw J J) J<|rA J J<|rN<|ATodo.stop<|?_
          obtain rfl := Option.some.inj h
          exact hJ1 _ _ J<|ImpX.lq [] J J J
    · refine have h := iteF hc h; ATodo.exit J<|have h := outL h hA1; tSR<|rA J J<|rN<|ATodo.ret<|?_
      obtain rfl := Option.some.inj h
      exact ImpX.here ⟨_,.cons (.tmp _ _ J) .nil,J⟩

theorem item_Property_c {p0x0 : Str} {r : Bool} (h : item_Property p0x0 = some r) : Pu Tryz.prog 153 [.str p0x0] (.bool r) := by
  unfold item_Property at h
  refine ACall.bodyN Tryz.func153 J Tryz.ntmps153 Tryz.results153 J J ?_
  refine tSR<|rA J J<|rN<|tS<|ATodo.cut (fun σ'=>∃ (c1 : Bool),item_Property_j1 c1 = some r ∧ σ' = ⟨10,[(2,.bool c1)],[]⟩) ?_ ?_
  · refine tR<|rM J J<|ARun.qv (q_len_str J) J<|ARun.qv (q_leq J J) J<|rM J J<|ARun.guard_dt J J J (fun hc=>?_) (fun hc=>?_)
    · exact have h := iteT hc h; rM J J<|rY J J J<|bndE h fun v2 e1 h=>r_callp J (base_Dotted_c e1) (CoL.refl _) J<|rT J J J<|rA J J<|rN<|ATodo.stop<|ImpX.lq [] ⟨v2,h,J⟩ J J
    · exact have h := iteF hc h; rG J J J J<|rE J J J<|rA J J<|rN<|ATodo.stop<|ImpX.lq [] ⟨false,h,J⟩ J J
  · rintro σ' ⟨c1, h, rfl⟩
    unfold item_Property_j1 at h
    refine ATodo.ret<|?_
    obtain rfl := Option.some.inj h
    exact ImpX.here ⟨_,.cons (.tmp _ _ J) .nil,J⟩

theorem device_typesFault_c {p0x0 : List PropType} {r : Int} (h : device_typesFault p0x0 = some r) : Pu Tryz.prog 73 [lE2 p0x0] (I r) := by
  unfold device_typesFault at h
  refine ACall.bodyN Tryz.func73 J Tryz.ntmps73 Tryz.results73 J J ?_
  refine tSR<|rA J J<|rN<|tS<|tSR<|rM J J<|ARun.qv (t_len J) J<|rM J J<|rN<|ATodo.block<|ATodo.loopI (fun x : Int=>device_typesFault_b1 p0x0 x) (fun x σ'=>σ' = ⟨67,[(0,lE2 p0x0),(6,lE2 p0x0),(7,I (p0x0.length : Int)),(8,I x)],[]⟩) h ?_ ?_
  · exact ImpX.lq [] J J J
  · intro n2 z1 σ' J1 hmk h hJ1 hA1
    obtain rfl := hmk
    replace h : device_typesFault_b1 p0x0 n2 = some z1 := h
    unfold device_typesFault_b1 at h
    refine tSR<|ARun.qv (q_lss J J) J<|rN<|tS<|ATodo.cond_d J (fun hc=>?_) (fun hc=>?_)
    · refine have h := iteT hc h; tK<|tS<|ATodo.block<|tSR<|rM J J<|bndE h fun v3 e1 h=>ARun.qv (t_index J J J e1 J J) J<|ARun.qv (q_load_rptr_agg J J J) J<|n_alloc J J J J fun b4=>rA J J<|n_store_ptr J J J J .p0 J J<|rN<|tSR<|rF J J J<|rL J J .p0 J J<|ARun.qv (q_eql J J) J<|rA J J<|rN<|ATodo.block<|tSR<|rF J J J<|rL J J .p0 J J<|bndE h fun v5 e2 h=>r_callp J (item_Property_c e2) (CoL.refl _) J<|ARun.qv (q_not J) J<|rA J J<|rN<|ATodo.cond J (fun hc=>?_) (fun hc=>?_)
      · refine have h := iteT hc h; tSR<|rA J J<|rN<|ATodo.ret<|have h := outL h hA1; ?_
        obtain rfl := Option.some.inj h
        exact ImpX.here ⟨_,.cons (.tmp _ _ J) .nil,J⟩
      · refine have h := iteFb hc h; tS<|ATodo.cut (fun σ'=>∃ (c6 : Bool),device_typesFault_j1 n2 v3 c6 = some z1 ∧ σ' = ⟨67,[(0,lE2 p0x0),(4,.ptr b4 0),(5,.bool (decide (v3.Kind = (2 : Int)))),(6,lE2 p0x0),(7,I (p0x0.length : Int)),(8,I n2),(21,.bool c6)],[(b4,.cells (cE0 v3))]⟩) ?_ ?_
        · refine ATodo.regionM (id := 7) (A := [0,1,3,7,15,7,7,71,231,487,999,2047,4095,8191]) 14 mixed J (by kernel_rfl) (by kernel_rfl)<|AM.qv (q_move J) J<|AM.qv (q_gtr J J) J<|AM.qv (q_move J) J<|AM.guard_dt J J J (fun hc=>?_) (fun hc=>?_)
          · exact have h := iteT hc h; AM.qv (n_field_ptr J J) J<|AM.guard_yes J J J<|AM.qv (q_load_ptr J J .p0 J) J<|AM.guard_yes J J J<|AM.qv (q_move J) J<|AM.guard_yes J J J<|AM.qv (q_move J) J<|AM.guard_yes J J J<|AM.qv (q_subw J J) J<|AM.guard_yes J J J<|bndE h fun v7 e3 h=>AM.qv (t_index J J J e3 J J) J<|AM.guard_yes J J J<|AM.qv (n_field_rptr J J) J<|AM.guard_yes J J J<|AM.qv (q_load_rptr J J J) J<|AM.guard_yes J J J<|AM.qv (t_sleq J J) J<|AM.qv (q_pick_t J J) J<|AM.qv (q_assign J) J<|AM.nil<|rN<|ATodo.stop<|ImpX.lq [0] ⟨Op.bytesLess v3.Name v7.Name || v3.Name == v7.Name,h,J⟩ J J
          · exact have h := iteF hc h; AM.guard_no J J J J<|AM.guard_no J J J J<|AM.guard_no J J J J<|AM.guard_no J J J J<|AM.guard_no J J J J<|AM.guard_no J J J J<|AM.guard_no J J J J<|AM.guard_no J J J J<|AM.qv (q_pick_f J J) J<|AM.qv (q_assign J) J<|AM.nil<|rN<|ATodo.stop<|ImpX.lq [0] ⟨false,h,J⟩ J J
        · rintro σ' ⟨c6, h, rfl⟩
          unfold device_typesFault_j1 at h
          refine ATodo.cond J (fun hc=>?_) (fun hc=>?_)
          · refine have h := iteT hc h; tSR<|rA J J<|rN<|ATodo.ret<|have h := outL h hA1; ?_
            obtain rfl := Option.some.inj h
            exact ImpX.here ⟨_,.cons (.tmp _ _ J) .nil,J⟩
          · refine have h := iteFb hc h; tSR<|rF J J J<|rL J J .p0 J J<|r_callp J (base_Out_c J) (CoL.refl _) J<|rA J J<|rN<|ATodo.cond J (fun hc=>?_) (fun hc=>?_)
            · refine have h := iteT hc h; tSR<|rA J J<|rN<|ATodo.ret<|have h := outL h hA1; ?_
              obtain rfl := Option.some.inj h
              exact ImpX.here ⟨_,.cons (.tmp _ _ J) .nil,J⟩
            · refine have h := iteFb hc h; tS<|ATodo.cut (fun σ'=>∃ (c8 : Bool),device_typesFault_j2 n2 v3 c8 = some z1 ∧ σ' = ⟨67,[(0,lE2 p0x0),(4,.ptr b4 0),(5,.bool (decide (v3.Kind = (2 : Int)))),(6,lE2 p0x0),(7,I (p0x0.length : Int)),(8,I n2),(39,.bool c8)],[(b4,.cells (cE0 v3))]⟩) ?_ ?_
              · refine tR<|rM J J<|rM J J<|ARun.guard_dt J J J (fun hc=>?_) (fun hc=>?_)
                · rw [andTd hc] at h
                  refine rF J J J<|rY J J J<|rL J J .p0 J J<|rY J J J<|rF J J J<|rY J J J<|rL J J .p0 J J<|rY J J J<|r_callp J (base_Out_c J) (CoL.refl _) J<|rY J J J<|rM J J<|ARun.guard J J J (fun hc=>?_) (fun hc=>?_)
                  · rw [orFb hc] at h
                    exact rF J J J<|rY J J J<|rL J J .p0 J J<|rY J J J<|ARun.qv (q_gtr J J) J<|rY J J J<|rE J J J<|rT J J J<|rA J J<|rN<|ATodo.stop<|ImpX.lq [0] ⟨decide ((1000000000 : Int) < v3.High),h,J⟩ J J
                  · rw [orTb hc] at h
                    exact rG J J J J<|rG J J J J<|rY J J J<|rT J J J<|rT J J J<|rA J J<|rN<|ATodo.stop<|ImpX.lq [0] ⟨true,h,J⟩ J J
                · rw [andFd hc] at h
                  exact rG J J J J<|rG J J J J<|rG J J J J<|rG J J J J<|rG J J J J<|ARun.guard_und J J J<|ARun.guard_und J J J<|ARun.guard_und J J J<|rG J J J J<|rE J J J<|rA J J<|rN<|ATodo.stop<|ImpX.lq [0] ⟨false,h,J⟩ J J
              · rintro σ' ⟨c8, h, rfl⟩
                unfold device_typesFault_j2 at h
                refine ATodo.cond J (fun hc=>?_) (fun hc=>?_)
                · refine have h := iteT hc h; tSR<|rA J J<|rN<|ATodo.ret<|have h := outL h hA1; ?_
                  obtain rfl := Option.some.inj h
                  exact ImpX.here ⟨_,.cons (.tmp _ _ J) .nil,J⟩
                · refine have h := iteFb hc h; tS<|ATodo.cut (fun σ'=>∃ (c9 : Bool),device_typesFault_j3 n2 c9 = some z1 ∧ σ' = ⟨67,[(0,lE2 p0x0),(6,lE2 p0x0),(7,I (p0x0.length : Int)),(8,I n2),(53,.bool c9)],[]⟩) ?_ ?_
                  · refine tR<|rM J J<|ARun.qv (q_not_d J) J<|rM J J<|ARun.guard_dt J J J (fun hc=>?_) (fun hc=>?_)
                    · rw [andTd hc] at h
                      refine rF J J J<|rY J J J<|rL J J .p0 J J<|rY J J J<|ARun.qv (q_neq J J) J<|rY J J J<|rM J J<|ARun.guard_df J J J (fun hc=>?_) (fun hc=>?_)
                      · rw [orFd hc] at h
                        exact rF J J J<|rY J J J<|rL J J .p0 J J<|rY J J J<|ARun.qv (q_neq J J) J<|rY J J J<|rE J J J<|rT J J J<|rA J J<|rN<|ATodo.stop<|ImpX.lq [] ⟨decide (v3.High ≠ (0 : Int)),h,J⟩ J J
                      · rw [orTd hc] at h
                        exact rG J J J J<|rG J J J J<|rY J J J<|rT J J J<|rT J J J<|rA J J<|rN<|ATodo.stop<|ImpX.lq [] ⟨true,h,J⟩ J J
                    · rw [andFd hc] at h
                      exact rG J J J J<|rG J J J J<|rG J J J J<|ARun.guard_und J J J<|ARun.guard_und J J J<|ARun.guard_und J J J<|rG J J J J<|rE J J J<|rA J J<|rN<|ATodo.stop<|ImpX.lq [] ⟨false,h,J⟩ J J
                  · rintro σ' ⟨c9, h, rfl⟩
                    unfold device_typesFault_j3 at h
                    refine ATodo.cond J (fun hc=>?_) (fun hc=>?_)
                    · refine have h := iteT hc h; tSR<|rA J J<|rN<|ATodo.ret<|have h := outL h hA1; ?_
                      obtain rfl := Option.some.inj h
                      exact ImpX.here ⟨_,.cons (.tmp _ _ J) .nil,J⟩
                    · refine have h := iteFb hc h; tK<|ATodo.blk<|ATodo.blk<|tR<|ARun.qv (q_addw J J) J<|rM J J<|rN<|ATodo.stop<|?_
                      obtain rfl := Option.some.inj h
                      exact hJ1 _ _ J<|ImpX.lq [] J J J
    · refine have h := iteF hc h; ATodo.exit J<|have h := outL h hA1; tSR<|rA J J<|rN<|ATodo.ret<|?_
      obtain rfl := Option.some.inj h
      exact ImpX.here ⟨_,.cons (.tmp _ _ J) .nil,J⟩

theorem device_CheckModels_c {p0x0 : List Model} {r : Int} (h : device_CheckModels p0x0 = some r) : Pu Tryz.prog 14 [lE3 p0x0] (I r) := by
  unfold device_CheckModels at h
  refine ACall.bodyN Tryz.func14 J Tryz.ntmps14 Tryz.results14 J J ?_
  refine tSR<|rA J J<|rN<|tS<|tSR<|rM J J<|ARun.qv (t_len J) J<|ARun.qv (q_gtr J J) J<|rN<|ATodo.cond_d J (fun hc=>?_) (fun hc=>?_)
  · refine have h := iteT hc h; tSR<|rA J J<|rN<|ATodo.ret<|?_
    obtain rfl := Option.some.inj h
    exact ImpX.here ⟨_,.cons (.tmp _ _ J) .nil,J⟩
  · refine have h := iteF hc h; tK<|tS<|tSR<|rM J J<|ARun.qv (t_len J) J<|rM J J<|rN<|ATodo.block<|ATodo.loopI (fun x : Int=>device_CheckModels_b1 p0x0 x) (fun x σ'=>σ' = ⟨58,[(0,lE3 p0x0),(9,lE3 p0x0),(10,I (p0x0.length : Int)),(11,I x)],[]⟩) h ?_ ?_
    · exact ImpX.lq [] J J J
    · intro n2 z1 σ' J1 hmk h hJ1 hA1
      obtain rfl := hmk
      replace h : device_CheckModels_b1 p0x0 n2 = some z1 := h
      unfold device_CheckModels_b1 at h
      refine tSR<|ARun.qv (q_lss J J) J<|rN<|tS<|ATodo.cond_d J (fun hc=>?_) (fun hc=>?_)
      · refine have h := iteT hc h; tK<|tS<|ATodo.block<|tSR<|rM J J<|bndE h fun v3 e1 h=>ARun.qv (t_index J J J e1 J J) J<|ARun.qv (q_load_rptr_agg J J J) J<|n_alloc J J J J fun b4=>rA J J<|n_store_ptr J J J J .p0 J J<|rN<|tS<|ATodo.block<|tSR<|rF J J J<|rL J J .p0 J J<|bndE h fun v5 e2 h=>r_callp J (base_Key_c e2) (CoL.refl _) J<|ARun.qv (q_not J) J<|rA J J<|rN<|ATodo.cond J (fun hc=>?_) (fun hc=>?_)
        · refine have h := iteT hc h; tSR<|rA J J<|rN<|ATodo.ret<|have h := outL h hA1; ?_
          obtain rfl := Option.some.inj h
          exact ImpX.here ⟨_,.cons (.tmp _ _ J) .nil,J⟩
        · refine have h := iteFb hc h; tS<|ATodo.cut (fun σ'=>∃ (c6 : Bool),device_CheckModels_j1 p0x0 n2 v3 c6 = some z1 ∧ σ' = ⟨58,[(0,lE3 p0x0),(3,I n2),(4,.ptr b4 0),(9,lE3 p0x0),(10,I (p0x0.length : Int)),(11,I n2),(21,.bool c6)],[(b4,.cells [.str v3.Key,.str v3.Prefix,lE2 v3.Props])]⟩) ?_ ?_
          · refine ATodo.regionM (id := 8) (A := [0,1,3,7,15,7,7,71,231,487,999,2047,4095,8191]) 14 mixed J (by kernel_rfl) (by kernel_rfl)<|AM.qv (q_move J) J<|AM.qv (q_gtr J J) J<|AM.qv (q_move J) J<|AM.guard_dt J J J (fun hc=>?_) (fun hc=>?_)
            · exact have h := iteT hc h; AM.qv (n_field_ptr J J) J<|AM.guard_yes J J J<|AM.qv (q_load_ptr J J .p0 J) J<|AM.guard_yes J J J<|AM.qv (q_move J) J<|AM.guard_yes J J J<|AM.qv (q_move J) J<|AM.guard_yes J J J<|AM.qv (q_subw J J) J<|AM.guard_yes J J J<|bndE h fun v7 e3 h=>AM.qv (t_index J J J e3 J J) J<|AM.guard_yes J J J<|AM.qv (n_field_rptr J J) J<|AM.guard_yes J J J<|AM.qv (q_load_rptr J J J) J<|AM.guard_yes J J J<|AM.qv (t_sleq J J) J<|AM.qv (q_pick_t J J) J<|AM.qv (q_assign J) J<|AM.nil<|rN<|ATodo.stop<|ImpX.lq [0] ⟨Op.bytesLess v3.Key v7.Key || v3.Key == v7.Key,h,J⟩ J J
            · exact have h := iteF hc h; AM.guard_no J J J J<|AM.guard_no J J J J<|AM.guard_no J J J J<|AM.guard_no J J J J<|AM.guard_no J J J J<|AM.guard_no J J J J<|AM.guard_no J J J J<|AM.guard_no J J J J<|AM.qv (q_pick_f J J) J<|AM.qv (q_assign J) J<|AM.nil<|rN<|ATodo.stop<|ImpX.lq [0] ⟨false,h,J⟩ J J
          · rintro σ' ⟨c6, h, rfl⟩
            unfold device_CheckModels_j1 at h
            refine ATodo.cond J (fun hc=>?_) (fun hc=>?_)
            · refine have h := iteT hc h; tSR<|rA J J<|rN<|ATodo.ret<|have h := outL h hA1; ?_
              obtain rfl := Option.some.inj h
              exact ImpX.here ⟨_,.cons (.tmp _ _ J) .nil,J⟩
            · refine have h := iteFb hc h; tSR<|rF J J J<|rL J J .p0 J J<|bndE h fun v8 e4 h=>r_callp J (device_isPrefix_c e4) (CoL.refl _) J<|ARun.qv (q_not J) J<|rA J J<|rN<|ATodo.cond J (fun hc=>?_) (fun hc=>?_)
              · refine have h := iteT hc h; tSR<|rA J J<|rN<|ATodo.ret<|have h := outL h hA1; ?_
                obtain rfl := Option.some.inj h
                exact ImpX.here ⟨_,.cons (.tmp _ _ J) .nil,J⟩
              · refine have h := iteFb hc h; tSR<|rM J J<|rM J J<|bndE h fun l9 e5 h=>ARun.qv (t_slice_list J J .none (.some _ _ _ J) J J e5) J<|ARun.qv (q_makeFunc J) J<|bndE h fun v10 e6 h=>r_callpB J (slices_ContainsFunc_Model_Model_c (fun e=>device_CheckModels_1x_c (Option.some.inj e)) e6) (.cons (.co (.refl _)) (.cons (.funcL _ _ _ (.cons (.boxL _ _ _ .p0 (.cons (.co (.refl _)) (.cons (.co (.refl _)) (.cons (.co (.refl _)) .nil)))) .nil)) .nil)) J J<|rA J J<|rN<|ATodo.cond J (fun hc=>?_) (fun hc=>?_)
                · refine have h := iteT hc h; tSR<|rA J J<|rN<|ATodo.ret<|have h := outL h hA1; ?_
                  obtain rfl := Option.some.inj h
                  exact ImpX.here ⟨_,.cons (.tmp _ _ J) .nil,J⟩
                · refine have h := iteFb hc h; tSR<|rF J J J<|rL J J .p0 J J<|ARun.qv (t_len J) J<|ARun.qv (q_gtr J J) J<|rA J J<|rN<|ATodo.cond_d J (fun hc=>?_) (fun hc=>?_)
                  · refine have h := iteT hc h; tSR<|rA J J<|rN<|ATodo.ret<|have h := outL h hA1; ?_
                    obtain rfl := Option.some.inj h
                    exact ImpX.here ⟨_,.cons (.tmp _ _ J) .nil,J⟩
                  · refine have h := iteF hc h; tK<|ATodo.blk<|tSR<|rF J J J<|rL J J .p0 J J<|bndE h fun v11 e7 h=>r_callp J (device_typesFault_c e7) (CoL.refl _) J<|rA J J<|rN<|tSR<|rM J J<|ARun.qv (q_neq J J) J<|rN<|ATodo.cond_d J (fun hc=>?_) (fun hc=>?_)
                    · refine have h := iteT hc h; tSR<|rM J J<|rA J J<|rN<|ATodo.ret<|have h := outL h hA1; ?_
                      obtain rfl := Option.some.inj h
                      exact ImpX.here ⟨_,.cons (.tmp _ _ J) .nil,J⟩
                    · refine have h := iteF hc h; tK<|ATodo.blk<|tR<|ARun.qv (q_addw J J) J<|rM J J<|rN<|ATodo.stop<|?_
                      obtain rfl := Option.some.inj h
                      exact hJ1 _ _ J<|ImpX.lq [] J J J
      · refine have h := iteF hc h; ATodo.exit J<|have h := outL h hA1; tSR<|rA J J<|rN<|ATodo.ret<|?_
        obtain rfl := Option.some.inj h
        exact ImpX.here ⟨_,.cons (.tmp _ _ J) .nil,J⟩

theorem device_model_1x_c [GI : GTab] {p0x0 : Model} {p1x0 : Str} {r : Bool} (h : device_model_1x p0x0 p1x0 = r) : Pu Tryz.prog 134 [Model.av p0x0,.rptr [.str p1x0]] (.bool r) := by
  unfold device_model_1x at h
  refine ACall.bodyN Tryz.func134 J Tryz.ntmps134 Tryz.results134 J J ?_
  refine tSR<|n_box J J J J fun b1=>rA J J<|rN<|tSR<|rF J J J<|rL J J .p0 J J<|ARun.qv (q_load_rptr J J J) J<|ARun.qv (q_seq J J) J<|rA J J<|rN<|ATodo.ret<|?_
  obtain rfl := h
  exact ImpX.here ⟨_,.cons (.tmp _ _ J) .nil,J⟩

theorem device_model_c [GI : GTab] {p0x0 : List Model} {p1x0 : Str} {r : Int} (h : device_model p0x0 p1x0 = some r) : Pu Tryz.prog 53 [lE3 p0x0,.str p1x0] (I r) := by
  unfold device_model at h
  refine ACall.bodyN Tryz.func53 J Tryz.ntmps53 Tryz.results53 J J ?_
  refine tSR<|n_box J J J J fun b1=>rA J J<|rN<|tSR<|rM J J<|ARun.qv (q_makeFunc J) J<|bndE h fun v2 e1 h=>r_callpB J (slices_IndexFunc_Model_Model_c (fun e=>device_model_1x_c (Option.some.inj e)) e1) (.cons (.co (.refl _)) (.cons (.funcL _ _ _ (.cons (.boxL _ _ _ .p0 (.cons (.co (.refl _)) .nil)) .nil)) .nil)) J J<|rA J J<|rN<|ATodo.ret<|?_
  obtain rfl := Option.some.inj h
  exact ImpX.here ⟨_,.cons (.tmp _ _ J) .nil,J⟩

theorem device_checkOf_c [GI : GTab] {p0x0 : Str} {r : Int} (h : device_checkOf p0x0 = some r) : Pu Tryz.prog 57 [.str p0x0] (.int .u8 r) := by
  unfold device_checkOf at h
  refine ACall.bodyN Tryz.func57 J Tryz.ntmps57 Tryz.results57 J J ?_
  refine tSR<|rA J J<|rN<|tSR<|rA J J<|rN<|tS<|tSR<|rM J J<|ARun.qv (q_len_str J) J<|rM J J<|rN<|ATodo.block<|ATodo.loopI (fun x : Int × Int=>device_checkOf_b1 p0x0 x.1 x.2) (fun x σ'=>σ' = ⟨23,[(0,.str p0x0),(3,I x.1),(6,I (p0x0.length : Int)),(7,I x.2)],[]⟩) h ?_ ?_
  · exact ImpX.lq [] J J J
  · intro x z1 σ' J1 hmk h hJ1 hA1
    obtain ⟨n3, n4⟩ := x
    obtain rfl := hmk
    replace h : device_checkOf_b1 p0x0 n3 n4 = some z1 := h
    unfold device_checkOf_b1 at h
    refine tSR<|ARun.qv (q_lss J J) J<|rN<|tS<|ATodo.cond_d J (fun hc=>?_) (fun hc=>?_)
    · refine have h := iteT hc h; tK<|tS<|ATodo.block<|tSR<|rM J J<|rA J J<|rN<|tR<|rM J J<|rM J J<|ARun.qv (q_addw J J) J<|rM J J<|rM J J<|bndE h fun c5 e1 h=>ARun.qv (t_index_str J J e1) J<|r_callp J (strings_IndexByte_c J) (CoL.refl _) J<|ARun.qv (q_mulw J J) J<|ARun.qv (q_addw J J) J<|rA J J<|rN<|ATodo.blk<|tR<|ARun.qv (q_addw J J) J<|rM J J<|rN<|ATodo.stop<|?_
      obtain rfl := Option.some.inj h
      exact hJ1 _ _ J<|ImpX.lq [] J J J
    · refine have h := iteF hc h; ATodo.exit J<|have h := outL h hA1; ?_
      unfold device_checkOf_k1 at h
      refine tSR<|rM J J<|ARun.qv (q_rem J J (by decide)) J<|bndE h fun c6 e2 h=>ARun.qv (t_index_str J J e2) J<|rA J J<|rN<|ATodo.ret<|?_
      obtain rfl := Option.some.inj h
      exact ImpX.here ⟨_,.cons (.tmp _ _ J) .nil,J⟩

theorem device_Serial_c {p0x0 : List Model} {p1x0 : Str} {p2x0 : Int} {r : Str × Int} (h : device_Serial p0x0 p1x0 p2x0 = some r) : Pu Tryz.prog 11 [lE3 p0x0,.str p1x0,I p2x0] (.tup [.str r.1,I r.2]) := by
  unfold device_Serial at h
  refine ACall.bodyN Tryz.func11 J Tryz.ntmps11 Tryz.results11 J J ?_
  refine tSR<|rA J J<|rA J J<|rN<|tS<|tSR<|rM J J<|bndE h fun v1 e1 h=>r_callp J (device_CheckModels_c e1) (CoL.refl _) J<|rA J J<|rN<|tSR<|rM J J<|ARun.qv (q_neq J J) J<|rN<|ATodo.cond_d J (fun hc=>?_) (fun hc=>?_)
  · refine have h := iteT hc h; tSR<|rM J J<|rA J J<|rA J J<|rN<|ATodo.ret<|?_
    obtain rfl := Option.some.inj h
    exact ImpX.here ⟨_,.cons (.tmp _ _ J) (.cons (.tmp _ _ J) .nil),J⟩
  · refine have h := iteF hc h; tK<|tSR<|rM J J<|rM J J<|bndE h fun v2 e2 h=>r_callp J (device_model_c e2) (CoL.refl _) J<|rA J J<|rN<|tS<|tSR<|rM J J<|ARun.qv (q_lss J J) J<|rN<|ATodo.cond_d J (fun hc=>?_) (fun hc=>?_)
    · refine have h := iteT hc h; tSR<|rA J J<|rA J J<|rN<|ATodo.ret<|?_
      obtain rfl := Option.some.inj h
      exact ImpX.here ⟨_,.cons (.tmp _ _ J) (.cons (.tmp _ _ J) .nil),J⟩
    · refine have h := iteF hc h; tK<|tS<|tSR<|rM J J<|r_callp J (base_Out_c J) (CoL.refl _) J<|rN<|ATodo.cond J (fun hc=>?_) (fun hc=>?_)
      · refine have h := iteT hc h; tSR<|rA J J<|rA J J<|rN<|ATodo.ret<|?_
        obtain rfl := Option.some.inj h
        exact ImpX.here ⟨_,.cons (.tmp _ _ J) (.cons (.tmp _ _ J) .nil),J⟩
      · refine have h := iteFb hc h; tK<|tSR<|rM J J<|bndE h fun v3 e3 h=>r_callp J (strconv_Itoa_c e3) (CoL.refl _) J<|rA J J<|rN<|tSR<|rM J J<|ARun.qv (q_len_str J) J<|ARun.qv (q_subw J J) J<|bndE h fun v4 e4 h=>r_callp J (strings_Repeat_c e4) (CoL.refl _) J<|rM J J<|bndE h fun q5 e5 h=>ARun.qv (q_sadd e5 J J) J<|rA J J<|rN<|tSR<|rM J J<|rM J J<|bndE h fun v6 e6 h=>ARun.qv (t_index J J J e6 J J) J<|ARun.qv (n_field_rptr J J) J<|ARun.qv (q_load_rptr J J J) J<|rA J J<|rN<|tSR<|rM J J<|bndE h fun q7 e7 h=>ARun.qv (q_sadd e7 J J) J<|rM J J<|bndE h fun q8 e8 h=>ARun.qv (q_sadd e8 J J) J<|bndE h fun q9 e9 h=>ARun.qv (q_sadd e9 J J) J<|rM J J<|rM J J<|bndE h fun q10 e10 h=>ARun.qv (q_sadd e10 J J) J<|bndE h fun v11 e11 h=>r_callp J (device_checkOf_c e11) (CoL.refl _) J<|ARun.qv (q_conv_is J) J<|bndE h fun q12 e12 h=>ARun.qv (q_sadd e12 J J) J<|rA J J<|rA J J<|rN<|ATodo.ret<|?_
        obtain rfl := Option.some.inj h
        exact ImpX.here ⟨_,.cons (.tmp _ _ J) (.cons (.tmp _ _ J) .nil),J⟩

theorem device_capital_c [GI : GTab] {p0x0 : Str} {r : Str} (h : device_capital p0x0 = some r) : Pu Tryz.prog 59 [.str p0x0] (.str r) := by
  unfold device_capital at h
  refine ACall.bodyN Tryz.func59 J Tryz.ntmps59 Tryz.results59 J J ?_
  refine tSR<|rA J J<|rN<|tSR<|rM J J<|t_conv_sbO J J fun b1=>rA J J<|rN<|tS<|tSR<|rM J J<|ARun.qv (t_len_sl J) J<|rM J J<|rN<|ATodo.block<|ATodo.loopI (fun x : (List Int) × Int=>device_capital_b1 p0x0 x.1 x.2) (fun x σ'=>σ' = ⟨29,[(3,.sl 1 b1 0 x.1.length),(8,.sl 1 b1 0 x.1.length),(9,I ((bytesI p0x0).length : Int)),(10,I x.2)],[(b1,.bts x.1)]⟩) h ?_ ?_
  · exact ImpX.lq [0] J J J
  · intro x z1 σ' J1 hmk h hJ1 hA1
    obtain ⟨l4, n5⟩ := x
    obtain rfl := hmk
    replace h : device_capital_b1 p0x0 l4 n5 = some z1 := h
    unfold device_capital_b1 at h
    refine tSR<|ARun.qv (q_lss J J) J<|rN<|tS<|ATodo.cond_d J (fun hc=>?_) (fun hc=>?_)
    · refine have h := iteT hc h; tK<|tS<|ATodo.block<|tSR<|rM J J<|bndE h fun v6 e1 h=>ARun.qv (t_index_sl J J J e1) J<|ARun.qv (t_load_bts (Xs := l4) (j := n5) J J .p0 e1) J<|rA J J<|rA J J<|rN<|tS<|ATodo.cut (fun σ'=>∃ (c7 : Bool),device_capital_j1 l4 n5 v6 c7 = some z1 ∧ σ' = ⟨29,[(3,.sl 1 b1 0 l4.length),(4,I n5),(5,.int .u8 v6),(8,.sl 1 b1 0 l4.length),(9,I ((bytesI p0x0).length : Int)),(10,I n5),(20,.bool c7)],[(b1,.bts l4)]⟩) ?_ ?_
      · refine tR<|rM J J<|ARun.qv (q_geq J J) J<|rM J J<|ARun.guard_dt J J J (fun hc=>?_) (fun hc=>?_)
        · rw [andTd hc] at h
          exact rM J J<|rY J J J<|ARun.qv (q_leq J J) J<|rT J J J<|rN<|ATodo.stop<|ImpX.lq [0] ⟨decide (v6 ≤ (122 : Int)),h,J⟩ J J
        · rw [andFd hc] at h
          exact rG J J J J<|rE J J J<|rN<|ATodo.stop<|ImpX.lq [0] ⟨false,h,J⟩ J J
      · rintro σ' ⟨c7, h, rfl⟩
        unfold device_capital_j1 at h
        refine ATodo.cut (fun σ'=>∃ (l8 : List Int),device_capital_j2 n5 l8 = some z1 ∧ σ' = ⟨29,[(3,.sl 1 b1 0 l8.length),(8,.sl 1 b1 0 l8.length),(9,I ((bytesI p0x0).length : Int)),(10,I n5)],[(b1,.bts l8)]⟩) ?_ ?_
        · refine ATodo.cond J (fun hc=>?_) (fun hc=>?_)
          · exact have h := iteT hc h; tR<|rM J J<|rM J J<|rM J J<|ARun.qv (q_subw J J) J<|bndE h fun v9 e2 h=>ARun.qv (t_index_sl J J J e2) J<|t_store_bts (Xs := l4) (z := IntKind.u8.wrap (v6 - (32 : Int))) (j := n5) J J J e2 .p0<|ARun.ghost<|ImpX.eqs (s := 3) (av' := .sl 1 b1 0 (l4.set n5.toNat (IntKind.u8.wrap (v6 - (32 : Int)))).length) J (by rw [List.length_set])<|ImpX.here<|ARun.ghost<|ImpX.eqs (s := 8) (av' := .sl 1 b1 0 (l4.set n5.toNat (IntKind.u8.wrap (v6 - (32 : Int)))).length) J (by rw [List.length_set])<|ImpX.here<|ARun.ghost<|ImpX.eqs (s := 21) (av' := .sl 1 b1 0 (l4.set n5.toNat (IntKind.u8.wrap (v6 - (32 : Int)))).length) J (by rw [List.length_set])<|ImpX.here<|rN<|ATodo.stop<|ImpX.lq [0] ⟨l4.set n5.toNat (IntKind.u8.wrap (v6 - (32 : Int))),h,J⟩ J J
          · exact have h := iteFb hc h; tK<|ATodo.stop<|ImpX.lq [0] ⟨l4,h,J⟩ J J
        · rintro σ' ⟨l8, h, rfl⟩
          unfold device_capital_j2 at h
          refine ATodo.blk<|tR<|ARun.qv (q_addw J J) J<|rM J J<|rN<|ATodo.stop<|?_
          obtain rfl := Option.some.inj h
          exact hJ1 _ _ J<|ImpX.lq [0] J J J
    · refine have h := iteF hc h; ATodo.exit J<|have h := outL h hA1; tSR<|rM J J<|ARun.qv (q_conv_bs J (CoB.bts .p0)) J<|rA J J<|rN<|ATodo.ret<|?_
      obtain rfl := Option.some.inj h
      exact ImpX.here ⟨_,.cons (.tmp _ _ J) .nil,J⟩

theorem device_ReadSerial_1x_c [GI : GTab] {p0x0 : Model} {p1x0 : List Str} {r : Bool} (h : device_ReadSerial_1x p0x0 p1x0 = some r) : Pu Tryz.prog 63 [Model.av p0x0,.rptr [lE1 p1x0]] (.bool r) := by
  unfold device_ReadSerial_1x at h
  refine ACall.bodyN Tryz.func63 J Tryz.ntmps63 Tryz.results63 J J ?_
  refine tSR<|n_box J J J J fun b1=>rA J J<|rN<|tS<|ATodo.regionM (id := 1) (A := [0,1,0,4,12,31,63]) 7 mixed J (by kernel_rfl) (by kernel_rfl)<|AM.qv (n_field_ptr J J) J<|AM.qv (q_load_ptr J J .p0 J) J<|AM.qv (q_load_rptr J J J) J<|bndE h fun v2 e1 h=>AM.qv (t_index J J J e1 J J) J<|AM.qv (q_load_rptr J J J) J<|AM.qv (q_seq J J) J<|AM.qv (q_assign J) J<|AM.nil<|rN<|ATodo.ret<|?_
  obtain rfl := Option.some.inj h
  exact ImpX.here ⟨_,.cons (.tmp _ _ J) .nil,J⟩

theorem device_ReadSerial_c {p0x0 : List Model} {p1x0 : Str} {r : Str × Int × Int} (h : device_ReadSerial p0x0 p1x0 = some r) : Pu Tryz.prog 12 [lE3 p0x0,.str p1x0] (.tup [.str r.1,I r.2.1,I r.2.2]) := by
  unfold device_ReadSerial at h
  refine ACall.bodyN Tryz.func12 J Tryz.ntmps12 Tryz.results12 J J ?_
  refine tSR<|rA J J<|rA J J<|rA J J<|rN<|tS<|tSR<|rM J J<|bndE h fun v1 e1 h=>r_callp J (device_CheckModels_c e1) (CoL.refl _) J<|rA J J<|rN<|tSR<|rM J J<|ARun.qv (q_neq J J) J<|rN<|ATodo.cond_d J (fun hc=>?_) (fun hc=>?_)
  · refine have h := iteT hc h; tSR<|rM J J<|rA J J<|rA J J<|rA J J<|rN<|ATodo.ret<|?_
    obtain rfl := Option.some.inj h
    exact ImpX.here ⟨_,.cons (.tmp _ _ J) (.cons (.tmp _ _ J) (.cons (.tmp _ _ J) .nil)),J⟩
  · refine have h := iteF hc h; tK<|tSR<|rM J J<|bndE h fun v2 e2 h=>r_callp J (device_capital_c e2) (CoL.refl _) J<|bndE h fun v3 e3 h=>t_call1 J (strings_Split_c e3) (CoL.refl _) .nil (fun _=>J) J fun b4=>n_alloc J J J J fun b5=>n_store_ptr J J J J .p0 J J<|rN<|tS<|tS<|ATodo.cut (fun σ'=>∃ (c6 : Bool),device_ReadSerial_j1 p0x0 v3 c6 = some r ∧ σ' = ⟨93,[(0,lE3 p0x0),(8,.ptr b5 0),(57,.bool c6)],[(b5,.cells [.sl 1 b4 0 v3.length]),(b4,aE1 v3)]⟩) ?_ ?_
    · refine tR<|rL J J .p0 J J<|ARun.qv (t_len_sl J) J<|ARun.qv (q_neq J J) J<|rM J J<|ARun.guard_df J J J (fun hc=>?_) (fun hc=>?_)
      · refine have h := iteF hc h; rL J J .p0 J J<|rY J J J<|bndE h fun v7 e4 h=>ARun.qv (t_index_sl J J J e4) J<|rY J J J<|ARun.qv (t_load_aptr (g := AV.str) J J (.inl .p1) e4 J) J<|rY J J J<|bndE h fun v8 e5 h=>r_callp J (device_isPrefix_c e5) (CoL.refl _) J<|rY J J J<|ARun.qv (q_not J) J<|rE J J J<|rM J J<|ARun.guard J J J (fun hc=>?_) (fun hc=>?_)
        · refine have h := iteFb hc h; rL J J .p0 J J<|rY J J J<|bndE h fun v9 e6 h=>ARun.qv (t_index_sl J J J e6) J<|rY J J J<|ARun.qv (t_load_aptr (g := AV.str) J J (.inl .p1) e6 J) J<|rY J J J<|ARun.qv (q_len_str J) J<|rY J J J<|ARun.qv (q_neq J J) J<|rE J J J<|rM J J<|ARun.guard_df J J J (fun hc=>?_) (fun hc=>?_)
          · refine have h := iteF hc h; rL J J .p0 J J<|rY J J J<|bndE h fun v10 e7 h=>ARun.qv (t_index_sl J J J e7) J<|rY J J J<|ARun.qv (t_load_aptr (g := AV.str) J J (.inl .p1) e7 J) J<|rY J J J<|bndE h fun v11 e8 h=>r_callp J (strings_Trim_c e8) (CoL.refl _) J<|rY J J J<|ARun.qv (q_sne J J) J<|rE J J J<|rM J J<|ARun.guard_df J J J (fun hc=>?_) (fun hc=>?_)
            · refine have h := iteF hc h; rL J J .p0 J J<|rY J J J<|bndE h fun v12 e9 h=>ARun.qv (t_index_sl J J J e9) J<|rY J J J<|ARun.qv (t_load_aptr (g := AV.str) J J (.inl .p1) e9 J) J<|rY J J J<|ARun.qv (q_len_str J) J<|rY J J J<|ARun.qv (q_neq J J) J<|rE J J J<|rM J J<|ARun.guard_df J J J (fun hc=>?_) (fun hc=>?_)
              · exact have h := iteF hc h; rL J J .p0 J J<|rY J J J<|bndE h fun v13 e10 h=>ARun.qv (t_index_sl J J J e10) J<|rY J J J<|ARun.qv (t_load_aptr (g := AV.str) J J (.inl .p1) e10 J) J<|rY J J J<|bndE h fun v14 e11 h=>r_callp J (strings_Trim_c e11) (CoL.refl _) J<|rY J J J<|ARun.qv (q_sne J J) J<|rE J J J<|rN<|ATodo.stop<|ImpX.lq [0,0] ⟨decide (v14 ≠ ([] : Str)),h,J⟩ J J
              · exact have h := iteT hc h; rG J J J J<|rG J J J J<|rG J J J J<|rG J J J J<|rT J J J<|rN<|ATodo.stop<|ImpX.lq [0,0] ⟨true,h,J⟩ J J
            · exact have h := iteT hc h; rG J J J J<|rG J J J J<|rG J J J J<|rG J J J J<|rT J J J<|rM J J<|rG J J J J<|rG J J J J<|rG J J J J<|rG J J J J<|rG J J J J<|rT J J J<|rN<|ATodo.stop<|ImpX.lq [0,0] ⟨true,h,J⟩ J J
          · exact have h := iteT hc h; rG J J J J<|rG J J J J<|rG J J J J<|rG J J J J<|rT J J J<|rM J J<|rG J J J J<|rG J J J J<|rG J J J J<|rG J J J J<|rG J J J J<|rT J J J<|rM J J<|rG J J J J<|rG J J J J<|rG J J J J<|rG J J J J<|rG J J J J<|rT J J J<|rN<|ATodo.stop<|ImpX.lq [0,0] ⟨true,h,J⟩ J J
        · exact have h := iteT hc h; rG J J J J<|rG J J J J<|rG J J J J<|rG J J J J<|rT J J J<|rM J J<|rG J J J J<|rG J J J J<|rG J J J J<|rG J J J J<|rG J J J J<|rT J J J<|rM J J<|rG J J J J<|rG J J J J<|rG J J J J<|rG J J J J<|rG J J J J<|rT J J J<|rM J J<|rG J J J J<|rG J J J J<|rG J J J J<|rG J J J J<|rG J J J J<|rT J J J<|rN<|ATodo.stop<|ImpX.lq [0,0] ⟨true,h,J⟩ J J
      · exact have h := iteT hc h; rG J J J J<|rG J J J J<|rG J J J J<|rG J J J J<|rT J J J<|rM J J<|rG J J J J<|rG J J J J<|rG J J J J<|rG J J J J<|rG J J J J<|rT J J J<|rM J J<|rG J J J J<|rG J J J J<|rG J J J J<|rG J J J J<|rG J J J J<|rT J J J<|rM J J<|rG J J J J<|rG J J J J<|rG J J J J<|rG J J J J<|rG J J J J<|rT J J J<|rM J J<|rG J J J J<|rG J J J J<|rG J J J J<|rG J J J J<|rG J J J J<|rT J J J<|rN<|ATodo.stop<|ImpX.lq [0,0] ⟨true,h,J⟩ J J
    · rintro σ' ⟨c6, h, rfl⟩
      unfold device_ReadSerial_j1 at h
      refine ATodo.cond J (fun hc=>?_) (fun hc=>?_)
      · refine have h := iteT hc h; tSR<|rA J J<|rA J J<|rA J J<|rN<|ATodo.ret<|?_
        obtain rfl := Option.some.inj h
        exact ImpX.here ⟨_,.cons (.tmp _ _ J) (.cons (.tmp _ _ J) (.cons (.tmp _ _ J) .nil)),J⟩
      · refine have h := iteFb hc h; tK<|tSR<|rM J J<|ARun.qv (q_makeFunc J) J<|bndE h fun v15 e12 h=>r_callpB J (slices_IndexFunc_Model_Model_c (fun e=>device_ReadSerial_1x_c e) e12) (.cons (.co (.refl _)) (.cons (.funcL _ _ _ (.cons (.boxL _ _ _ .p0 (.cons (CoB.arrT .p1) .nil)) .nil)) .nil)) J J<|rA J J<|rN<|tS<|tSR<|rM J J<|ARun.qv (q_lss J J) J<|rN<|ATodo.cond_d J (fun hc=>?_) (fun hc=>?_)
        · refine have h := iteT hc h; tSR<|rA J J<|rA J J<|rA J J<|rN<|ATodo.ret<|?_
          obtain rfl := Option.some.inj h
          exact ImpX.here ⟨_,.cons (.tmp _ _ J) (.cons (.tmp _ _ J) (.cons (.tmp _ _ J) .nil)),J⟩
        · refine have h := iteF hc h; tK<|tSR<|rL J J .p0 J J<|bndE h fun v16 e13 h=>ARun.qv (t_index_sl J J J e13) J<|ARun.qv (t_load_aptr (g := AV.str) J J (.inl .p1) e13 J) J<|bndE h fun v17 e14 h=>t_callE J (strconv_Atoi_c e14) (CoL.refl _) J fun e18 e15=>rM J J<|rX J J J<|rX J J J<|rA J J<|rA J J<|rN<|tS<|ATodo.block<|tSR<|rM J J<|ARun.qv (q_eql J J) J<|rA J J<|rN<|ATodo.cond_d J (fun hc=>?_) (fun hc=>?_)
          · refine have h := iteT hc h; tSR<|rA J J<|rA J J<|rA J J<|rN<|ATodo.ret<|?_
            obtain rfl := Option.some.inj h
            exact ImpX.here ⟨_,.cons (.tmp _ _ J) (.cons (.tmp _ _ J) (.cons (.tmp _ _ J) .nil)),J⟩
          · refine have h := iteF hc h; tS<|ATodo.regionM (id := 13) (A := [0,1,3,7,0,16,48,0,128,384,1008,2032,4095,8191]) 14 mixed J (by kernel_rfl) (by kernel_rfl)<|AM.qv (q_load_ptr J J .p0 J) J<|bndE h fun v19 e16 h=>AM.qv (t_index_sl J J J e16) J<|AM.qv (t_load_aptr (g := AV.str) J J (.inl .p1) e16 J) J<|bndE h fun c20 e17 h=>AM.qv (t_index_str J J e17) J<|AM.qv (q_load_ptr J J .p0 J) J<|bndE h fun v21 e18 h=>AM.qv (t_index_sl J J J e18) J<|AM.qv (t_load_aptr (g := AV.str) J J (.inl .p1) e18 J) J<|AM.qv (q_load_ptr J J .p0 J) J<|bndE h fun v22 e19 h=>AM.qv (t_index_sl J J J e19) J<|AM.qv (t_load_aptr (g := AV.str) J J (.inl .p1) e19 J) J<|bndE h fun q23 e20 h=>AM.qv (q_sadd e20 J J) J<|bndE h fun v24 e21 h=>AM.callp J (device_checkOf_c e21) (CoL.refl _) J<|AM.qv (q_neq J J) J<|AM.qv (q_assign J) J<|AM.nil<|rN<|ATodo.cond_d J (fun hc=>?_) (fun hc=>?_)
            · refine have h := iteT hc h; tSR<|rA J J<|rA J J<|rA J J<|rN<|ATodo.ret<|?_
              obtain rfl := Option.some.inj h
              exact ImpX.here ⟨_,.cons (.tmp _ _ J) (.cons (.tmp _ _ J) (.cons (.tmp _ _ J) .nil)),J⟩
            · refine have h := iteF hc h; tK<|ATodo.blk<|tSR<|rM J J<|rM J J<|bndE h fun v25 e22 h=>ARun.qv (t_index J J J e22 J J) J<|ARun.qv (n_field_rptr J J) J<|ARun.qv (q_load_rptr J J J) J<|rM J J<|rA J J<|rA J J<|rA J J<|rN<|ATodo.ret<|?_
              obtain rfl := Option.some.inj h
              exact ImpX.here ⟨_,.cons (.tmp _ _ J) (.cons (.tmp _ _ J) (.cons (.tmp _ _ J) .nil)),J⟩

theorem Q_Key_c {p0x0 : Str} {r : Bool} (h : Q_Key p0x0 = some r) : Pu Tryz.prog 65 [.str p0x0] (.bool r) := by
  unfold Q_Key at h
  refine ACall.bodyN Tryz.func65 J Tryz.ntmps65 Tryz.results65 J J ?_
  refine tSR<|rA J J<|rN<|tS<|ATodo.cut (fun σ'=>∃ (c1 : Bool),Q_Key_j1 c1 = some r ∧ σ' = ⟨17,[(2,.bool c1)],[]⟩) ?_ ?_
  · refine tR<|rM J J<|ARun.qv (q_len_str J) J<|r_callp J (Q_in_c J) (CoL.refl _) J<|rM J J<|ARun.guard J J J (fun hc=>?_) (fun hc=>?_)
    · refine have h := iteT hc h; rM J J<|rY J J J<|bndE h fun v2 e1 h=>r_callp J (strings_Trim_c e1) (CoL.refl _) J<|rY J J J<|ARun.qv (q_seq J J) J<|rT J J J<|rM J J<|ARun.guard_dt J J J (fun hc=>?_) (fun hc=>?_)
      · exact have h := iteT hc h; rM J J<|rY J J J<|bndE h fun c3 e2 h=>ARun.qv (t_index_str J J e2) J<|rY J J J<|r_callp J (strings_IndexByte_c J) (CoL.refl _) J<|rY J J J<|ARun.qv (q_geq J J) J<|rT J J J<|rA J J<|rN<|ATodo.stop<|ImpX.lq [] ⟨decide ((0 : Int) ≤ (indexByteI ([97,98,99,100,101,102,103,104,105,106,107,108,109,110,111,112,113,114,115,116,117,118,119,120,121,122] : Str) (c3.toNat : Int))),h,J⟩ J J
      · exact have h := iteF hc h; rG J J J J<|rG J J J J<|rG J J J J<|rE J J J<|rA J J<|rN<|ATodo.stop<|ImpX.lq [] ⟨false,h,J⟩ J J
    · exact have h := iteFb hc h; rG J J J J<|rG J J J J<|rE J J J<|rM J J<|rG J J J J<|rG J J J J<|rG J J J J<|rG J J J J<|rE J J J<|rA J J<|rN<|ATodo.stop<|ImpX.lq [] ⟨false,h,J⟩ J J
  · rintro σ' ⟨c1, h, rfl⟩
    unfold Q_Key_j1 at h
    refine ATodo.ret<|?_
    obtain rfl := Option.some.inj h
    exact ImpX.here ⟨_,.cons (.tmp _ _ J) .nil,J⟩

theorem Q_ModelsFault_1x_c [GI : GTab] {p0x0 : Model} {p1x0 : Model} {r : Bool} (h : Q_ModelsFault_1x p0x0 p1x0 = r) : Pu Tryz.prog 69 [Model.av p0x0,.rptr [.str p1x0.Key,.str p1x0.Prefix,lE2 p1x0.Props]] (.bool r) := by
  unfold Q_ModelsFault_1x at h
  refine ACall.bodyN Tryz.func69 J Tryz.ntmps69 Tryz.results69 J J ?_
  refine tSR<|n_box J J J J fun b1=>rA J J<|rN<|tSR<|rF J J J<|rL J J .p0 J J<|ARun.qv (n_field_rptr J J) J<|ARun.qv (q_load_rptr J J J) J<|ARun.qv (q_seq J J) J<|rA J J<|rN<|ATodo.ret<|?_
  obtain rfl := h
  exact ImpX.here ⟨_,.cons (.tmp _ _ J) .nil,J⟩

theorem Q_PropName_1x_c {p0x0 : Str} {r : Bool} (h : Q_PropName_1x p0x0 = some r) : Pu Tryz.prog 152 [.str p0x0] (.bool r) := by
  unfold Q_PropName_1x at h
  refine ACall.bodyN Tryz.func152 J Tryz.ntmps152 Tryz.results152 J J ?_
  refine tSR<|rA J J<|rN<|tSR<|rM J J<|bndE h fun v1 e1 h=>r_callp J (Q_Key_c e1) (CoL.refl _) J<|ARun.qv (q_not J) J<|rA J J<|rN<|ATodo.ret<|?_
  obtain rfl := Option.some.inj h
  exact ImpX.here ⟨_,.cons (.tmp _ _ J) .nil,J⟩

theorem slices_IndexFunc_string_string_c [GI : GTab] {p0x0 : List Str} {fnb : Str → Option Bool} {fnb_F : FuncId} [IsFn Tryz.prog fnb_F] {fnb_C : List AV} (fnb_h : ∀ {y0 : _} {u : Bool},fnb y0 = some u → Pu Tryz.prog fnb_F (.str y0 ::  fnb_C) (.bool u)) {r : Int} (h : slices_IndexFunc_string_string p0x0 fnb = some r) : Pu Tryz.prog 207 [lE1 p0x0,.func (.func fnb_F) fnb_C] (I r) := by
  unfold slices_IndexFunc_string_string at h
  refine ACall.bodyN Tryz.func207 J Tryz.ntmps207 Tryz.results207 J J ?_
  refine tSR<|rA J J<|rN<|tS<|tSR<|rM J J<|ARun.qv (t_len J) J<|rM J J<|rN<|ATodo.block<|ATodo.loopI (fun x : Int=>slices_IndexFunc_string_string_b1 p0x0 fnb x) (fun x σ'=>σ' = ⟨19,[(0,lE1 p0x0),(1,.func (.func fnb_F) fnb_C),(7,I (p0x0.length : Int)),(8,I x)],[]⟩) h ?_ ?_
  · exact ImpX.lq [] J J J
  · intro n2 z1 σ' J1 hmk h hJ1 hA1
    obtain rfl := hmk
    replace h : slices_IndexFunc_string_string_b1 p0x0 fnb n2 = some z1 := h
    unfold slices_IndexFunc_string_string_b1 at h
    refine tSR<|ARun.qv (q_lss J J) J<|rN<|tS<|ATodo.cond_d J (fun hc=>?_) (fun hc=>?_)
    · refine have h := iteT hc h; tK<|tS<|ATodo.block<|tSR<|rM J J<|rA J J<|rN<|tSR<|rM J J<|rM J J<|rM J J<|bndE h fun v3 e1 h=>ARun.qv (t_index J J J e1 J J) J<|ARun.qv (q_load_rptr J J J) J<|bndE h fun v4 e2 h=>r_callvp J J (fnb_h e2) (CoL.refl _) J<|rN<|ATodo.cond J (fun hc=>?_) (fun hc=>?_)
      · refine have h := iteT hc h; tSR<|rM J J<|rA J J<|rN<|ATodo.ret<|have h := outL h hA1; ?_
        obtain rfl := Option.some.inj h
        exact ImpX.here ⟨_,.cons (.tmp _ _ J) .nil,J⟩
      · refine have h := iteFb hc h; tK<|ATodo.blk<|tR<|ARun.qv (q_addw J J) J<|rM J J<|rN<|ATodo.stop<|?_
        obtain rfl := Option.some.inj h
        exact hJ1 _ _ J<|ImpX.lq [] J J J
    · refine have h := iteF hc h; ATodo.exit J<|have h := outL h hA1; tSR<|rA J J<|rN<|ATodo.ret<|?_
      obtain rfl := Option.some.inj h
      exact ImpX.here ⟨_,.cons (.tmp _ _ J) .nil,J⟩

theorem slices_ContainsFunc_string_string_c [GI : GTab] {p0x0 : List Str} {fnb : Str → Option Bool} {fnb_F : FuncId} [IsFn Tryz.prog fnb_F] {fnb_C : List AV} (fnb_h : ∀ {y0 : _} {u : Bool},fnb y0 = some u → Pu Tryz.prog fnb_F (.str y0 ::  fnb_C) (.bool u)) {r : Bool} (h : slices_ContainsFunc_string_string p0x0 fnb = some r) : Pu Tryz.prog 151 [lE1 p0x0,.func (.func fnb_F) fnb_C] (.bool r) := by
  unfold slices_ContainsFunc_string_string at h
  refine ACall.bodyN Tryz.func151 J Tryz.ntmps151 Tryz.results151 J J ?_
  refine tSR<|rA J J<|rN<|tSR<|rM J J<|rM J J<|bndE h fun v1 e1 h=>r_callpB J (slices_IndexFunc_string_string_c fnb_h e1) (.cons (.co (.refl _)) (.cons (.co (.refl _)) .nil)) J J<|ARun.qv (q_geq J J) J<|rA J J<|rN<|ATodo.ret<|?_
  obtain rfl := Option.some.inj h
  exact ImpX.here ⟨_,.cons (.tmp _ _ J) .nil,J⟩

theorem Q_PropName_c {p0x0 : Str} {r : Bool} (h : Q_PropName p0x0 = some r) : Pu Tryz.prog 70 [.str p0x0] (.bool r) := by
  unfold Q_PropName at h
  refine ACall.bodyN Tryz.func70 J Tryz.ntmps70 Tryz.results70 J J ?_
  refine tSR<|rA J J<|rN<|tSR<|rM J J<|bndE h fun v1 e1 h=>t_call1 J (strings_Split_c e1) (CoL.refl _) .nil (fun _=>J) J fun b2=>rA J J<|rN<|tS<|ATodo.cut (fun σ'=>∃ (c3 : Bool),Q_PropName_j1 c3 = some r ∧ σ' = ⟨19,[(2,.bool c3)],[]⟩) ?_ ?_
  · refine tR<|rM J J<|ARun.qv (q_len_str J) J<|ARun.qv (q_leq J J) J<|rM J J<|ARun.guard_dt J J J (fun hc=>?_) (fun hc=>?_)
    · refine have h := iteT hc h; rM J J<|rY J J J<|ARun.qv (t_len_sl J) J<|rY J J J<|ARun.qv (q_leq J J) J<|rT J J J<|rM J J<|ARun.guard_dt J J J (fun hc=>?_) (fun hc=>?_)
      · exact have h := iteT hc h; rM J J<|rY J J J<|bndE h fun v4 e2 h=>r_callpB J (slices_ContainsFunc_string_string_c (fun e=>Q_PropName_1x_c e) e2) (.cons (CoB.arrT .p0) (.cons (.funcL _ _ _ .nil) .nil)) J J<|rY J J J<|ARun.qv (q_not J) J<|rT J J J<|rA J J<|rN<|ATodo.stop<|ImpX.lq [] ⟨!v4,h,J⟩ J J
      · exact have h := iteF hc h; rG J J J J<|rG J J J J<|rE J J J<|rA J J<|rN<|ATodo.stop<|ImpX.lq [] ⟨false,h,J⟩ J J
    · exact have h := iteF hc h; rG J J J J<|rG J J J J<|rE J J J<|rM J J<|rG J J J J<|rG J J J J<|rG J J J J<|rE J J J<|rA J J<|rN<|ATodo.stop<|ImpX.lq [] ⟨false,h,J⟩ J J
  · rintro σ' ⟨c3, h, rfl⟩
    unfold Q_PropName_j1 at h
    refine ATodo.ret<|?_
    obtain rfl := Option.some.inj h
    exact ImpX.here ⟨_,.cons (.tmp _ _ J) .nil,J⟩

theorem Q_ModelsFault_c {p0x0 : List Model} {r : Int} (h : Q_ModelsFault p0x0 = some r) : Pu Tryz.prog 13 [lE3 p0x0] (I r) := by
  unfold Q_ModelsFault at h
  refine ACall.bodyN Tryz.func13 J Tryz.ntmps13 Tryz.results13 J J ?_
  refine tSR<|rA J J<|rN<|tS<|tSR<|rM J J<|ARun.qv (t_len J) J<|ARun.qv (q_gtr J J) J<|rN<|ATodo.cond_d J (fun hc=>?_) (fun hc=>?_)
  · refine have h := iteT hc h; tSR<|rA J J<|rN<|ATodo.ret<|?_
    obtain rfl := Option.some.inj h
    exact ImpX.here ⟨_,.cons (.tmp _ _ J) .nil,J⟩
  · refine have h := iteF hc h; tK<|tS<|tSR<|rM J J<|ARun.qv (t_len J) J<|rM J J<|rN<|ATodo.block<|ATodo.loopI (fun x : Int=>Q_ModelsFault_b1 p0x0 x) (fun x σ'=>σ' = ⟨127,[(0,lE3 p0x0),(11,lE3 p0x0),(12,I (p0x0.length : Int)),(13,I x)],[]⟩) h ?_ ?_
    · exact ImpX.lq [] J J J
    · intro n2 z1 σ' J1 hmk h hJ1 hA1
      obtain rfl := hmk
      replace h : Q_ModelsFault_b1 p0x0 n2 = some z1 := h
      unfold Q_ModelsFault_b1 at h
      refine tSR<|ARun.qv (q_lss J J) J<|rN<|tS<|ATodo.cond_d J (fun hc=>?_) (fun hc=>?_)
      · refine have h := iteT hc h; tK<|tS<|ATodo.block<|tSR<|rM J J<|bndE h fun v3 e1 h=>ARun.qv (t_index J J J e1 J J) J<|ARun.qv (q_load_rptr_agg J J J) J<|n_alloc J J J J fun b4=>rA J J<|n_store_ptr J J J J .p0 J J<|rN<|tS<|ATodo.block<|tSR<|rF J J J<|rL J J .p0 J J<|bndE h fun v5 e2 h=>r_callp J (Q_Key_c e2) (CoL.refl _) J<|ARun.qv (q_not J) J<|rA J J<|rN<|ATodo.cond J (fun hc=>?_) (fun hc=>?_)
        · refine have h := iteT hc h; tSR<|rA J J<|rN<|ATodo.ret<|have h := outL h hA1; ?_
          obtain rfl := Option.some.inj h
          exact ImpX.here ⟨_,.cons (.tmp _ _ J) .nil,J⟩
        · refine have h := iteFb hc h; tS<|ATodo.cut (fun σ'=>∃ (c6 : Bool),Q_ModelsFault_j1 p0x0 n2 v3 c6 = some z1 ∧ σ' = ⟨127,[(0,lE3 p0x0),(3,I n2),(4,.ptr b4 0),(11,lE3 p0x0),(12,I (p0x0.length : Int)),(13,I n2),(23,.bool c6)],[(b4,.cells [.str v3.Key,.str v3.Prefix,lE2 v3.Props])]⟩) ?_ ?_
          · refine ATodo.regionM (id := 8) (A := [0,1,3,7,15,7,7,71,231,487,999,2047,4095,8191]) 14 mixed J (by kernel_rfl) (by kernel_rfl)<|AM.qv (q_move J) J<|AM.qv (q_gtr J J) J<|AM.qv (q_move J) J<|AM.guard_dt J J J (fun hc=>?_) (fun hc=>?_)
            · exact have h := iteT hc h; AM.qv (n_field_ptr J J) J<|AM.guard_yes J J J<|AM.qv (q_load_ptr J J .p0 J) J<|AM.guard_yes J J J<|AM.qv (q_move J) J<|AM.guard_yes J J J<|AM.qv (q_move J) J<|AM.guard_yes J J J<|AM.qv (q_subw J J) J<|AM.guard_yes J J J<|bndE h fun v7 e3 h=>AM.qv (t_index J J J e3 J J) J<|AM.guard_yes J J J<|AM.qv (n_field_rptr J J) J<|AM.guard_yes J J J<|AM.qv (q_load_rptr J J J) J<|AM.guard_yes J J J<|AM.qv (t_sleq J J) J<|AM.qv (q_pick_t J J) J<|AM.qv (q_assign J) J<|AM.nil<|rN<|ATodo.stop<|ImpX.lq [0] ⟨Op.bytesLess v3.Key v7.Key || v3.Key == v7.Key,h,J⟩ J J
            · exact have h := iteF hc h; AM.guard_no J J J J<|AM.guard_no J J J J<|AM.guard_no J J J J<|AM.guard_no J J J J<|AM.guard_no J J J J<|AM.guard_no J J J J<|AM.guard_no J J J J<|AM.guard_no J J J J<|AM.qv (q_pick_f J J) J<|AM.qv (q_assign J) J<|AM.nil<|rN<|ATodo.stop<|ImpX.lq [0] ⟨false,h,J⟩ J J
          · rintro σ' ⟨c6, h, rfl⟩
            unfold Q_ModelsFault_j1 at h
            refine ATodo.cond J (fun hc=>?_) (fun hc=>?_)
            · refine have h := iteT hc h; tSR<|rA J J<|rN<|ATodo.ret<|have h := outL h hA1; ?_
              obtain rfl := Option.some.inj h
              exact ImpX.here ⟨_,.cons (.tmp _ _ J) .nil,J⟩
            · refine have h := iteFb hc h; tS<|ATodo.cut (fun σ'=>∃ (c8 : Bool),Q_ModelsFault_j2 p0x0 n2 v3 c8 = some z1 ∧ σ' = ⟨127,[(0,lE3 p0x0),(3,I n2),(4,.ptr b4 0),(11,lE3 p0x0),(12,I (p0x0.length : Int)),(13,I n2),(37,.bool c8)],[(b4,.cells [.str v3.Key,.str v3.Prefix,lE2 v3.Props])]⟩) ?_ ?_
              · refine ATodo.regionM (id := 10) (A := [0,1,3,7,15,31,63,127,63,511,1023,2047,4095]) 13 mixed J (by kernel_rfl) (by kernel_rfl)<|AM.qv (n_field_ptr J J) J<|AM.qv (q_load_ptr J J .p0 J) J<|AM.qv (q_len_str J) J<|AM.callp J (Q_in_c J) (CoL.refl _) J<|AM.qv (q_not J) J<|AM.qv (q_move J) J<|AM.guard J J J (fun hc=>?_) (fun hc=>?_)
                · exact have h := iteFb hc h; AM.qv (n_field_ptr J J) J<|AM.guard_yes J J J<|AM.qv (q_load_ptr J J .p0 J) J<|AM.guard_yes J J J<|bndE h fun v9 e4 h=>AM.callp J (strings_ToUpper_c e4) (CoL.refl _) J<|AM.guard_yes J J J<|bndE h fun v10 e5 h=>AM.callp J (strings_Trim_c e5) (CoL.refl _) J<|AM.guard_yes J J J<|AM.qv (q_sne J J) J<|AM.qv (q_pick_f J J) J<|AM.qv (q_assign J) J<|AM.nil<|rN<|ATodo.stop<|ImpX.lq [0] ⟨decide (v10 ≠ ([] : Str)),h,J⟩ J J
                · exact have h := iteT hc h; AM.guard_no J J J J<|AM.guard_no J J J J<|AM.guard_no J J J J<|AM.guard_no J J J J<|AM.qv (q_pick_t J J) J<|AM.qv (q_assign J) J<|AM.nil<|rN<|ATodo.stop<|ImpX.lq [0] ⟨true,h,J⟩ J J
              · rintro σ' ⟨c8, h, rfl⟩
                unfold Q_ModelsFault_j2 at h
                refine ATodo.cond J (fun hc=>?_) (fun hc=>?_)
                · refine have h := iteT hc h; tSR<|rA J J<|rN<|ATodo.ret<|have h := outL h hA1; ?_
                  obtain rfl := Option.some.inj h
                  exact ImpX.here ⟨_,.cons (.tmp _ _ J) .nil,J⟩
                · refine have h := iteFb hc h; tSR<|rM J J<|rM J J<|bndE h fun l11 e6 h=>ARun.qv (t_slice_list J J .none (.some _ _ _ J) J J e6) J<|ARun.qv (q_makeFunc J) J<|bndE h fun v12 e7 h=>r_callpB J (slices_ContainsFunc_Model_Model_c (fun e=>Q_ModelsFault_1x_c (Option.some.inj e)) e7) (.cons (.co (.refl _)) (.cons (.funcL _ _ _ (.cons (.boxL _ _ _ .p0 (.cons (.co (.refl _)) (.cons (.co (.refl _)) (.cons (.co (.refl _)) .nil)))) .nil)) .nil)) J J<|rA J J<|rN<|ATodo.cond J (fun hc=>?_) (fun hc=>?_)
                  · refine have h := iteT hc h; tSR<|rA J J<|rN<|ATodo.ret<|have h := outL h hA1; ?_
                    obtain rfl := Option.some.inj h
                    exact ImpX.here ⟨_,.cons (.tmp _ _ J) .nil,J⟩
                  · refine have h := iteFb hc h; tSR<|rF J J J<|rL J J .p0 J J<|ARun.qv (t_len J) J<|ARun.qv (q_gtr J J) J<|rA J J<|rN<|ATodo.cond_d J (fun hc=>?_) (fun hc=>?_)
                    · refine have h := iteT hc h; tSR<|rA J J<|rN<|ATodo.ret<|have h := outL h hA1; ?_
                      obtain rfl := Option.some.inj h
                      exact ImpX.here ⟨_,.cons (.tmp _ _ J) .nil,J⟩
                    · refine have h := iteF hc h; tK<|ATodo.blk<|tSR<|rF J J J<|rL J J .p0 J J<|ARun.qv (t_len J) J<|rM J J<|rN<|ATodo.block<|ATodo.loopI (fun x : Int=>Q_ModelsFault_b2 n2 v3 x) (fun x σ'=>σ' = ⟨127,[(0,lE3 p0x0),(4,.ptr b4 0),(11,lE3 p0x0),(12,I (p0x0.length : Int)),(13,I n2),(62,lE2 v3.Props),(63,I (v3.Props.length : Int)),(64,I x)],[(b4,.cells [.str v3.Key,.str v3.Prefix,lE2 v3.Props])]⟩) h ?_ ?_
                      · exact ImpX.lq [0] J J J
                      · intro n14 z2 σ' J2 hmk h hJ2 hA2
                        obtain rfl := hmk
                        replace h : Q_ModelsFault_b2 n2 v3 n14 = some z2 := h
                        unfold Q_ModelsFault_b2 at h
                        refine tSR<|ARun.qv (q_lss J J) J<|rN<|tS<|ATodo.cond_d J (fun hc=>?_) (fun hc=>?_)
                        · refine have h := iteT hc h; tK<|tS<|ATodo.block<|tSR<|rM J J<|bndE h fun v15 e8 h=>ARun.qv (t_index J J J e8 J J) J<|ARun.qv (q_load_rptr_agg J J J) J<|n_alloc J J J J fun b16=>rA J J<|n_store_ptr J J J J .p0 J J<|rN<|tSR<|rF J J J<|rL J J .p0 J J<|ARun.qv (q_eql J J) J<|rA J J<|rN<|ATodo.block<|tSR<|rF J J J<|rL J J .p0 J J<|bndE h fun v17 e9 h=>r_callp J (Q_PropName_c e9) (CoL.refl _) J<|ARun.qv (q_not J) J<|rA J J<|rN<|ATodo.cond J (fun hc=>?_) (fun hc=>?_)
                          · refine have h := iteT hc h; tSR<|rA J J<|rN<|ATodo.ret<|have h := outL h hA2; have h := outL h hA1; ?_
                            obtain rfl := Option.some.inj h
                            exact ImpX.here ⟨_,.cons (.tmp _ _ J) .nil,J⟩
                          · refine have h := iteFb hc h; tS<|ATodo.cut (fun σ'=>∃ (c18 : Bool),Q_ModelsFault_j3 n14 v15 c18 = some z2 ∧ σ' = ⟨127,[(0,lE3 p0x0),(4,.ptr b4 0),(6,.ptr b16 0),(7,.bool (decide (v15.Kind = (2 : Int)))),(11,lE3 p0x0),(12,I (p0x0.length : Int)),(13,I n2),(62,lE2 v3.Props),(63,I (v3.Props.length : Int)),(64,I n14),(77,.bool c18)],[(b4,.cells [.str v3.Key,.str v3.Prefix,lE2 v3.Props]),(b16,.cells (cE0 v15))]⟩) ?_ ?_
                            · refine ATodo.regionM (id := 22) (A := [0,1,3,7,15,7,39,7,135,487,999,2023,4095,8191,16383]) 15 mixed J (by kernel_rfl) (by kernel_rfl)<|AM.qv (q_move J) J<|AM.qv (q_gtr J J) J<|AM.qv (q_move J) J<|AM.guard_dt J J J (fun hc=>?_) (fun hc=>?_)
                              · exact have h := iteT hc h; AM.qv (n_field_ptr J J) J<|AM.guard_yes J J J<|AM.qv (q_load_ptr J J .p0 J) J<|AM.guard_yes J J J<|AM.qv (n_field_ptr J J) J<|AM.guard_yes J J J<|AM.qv (q_load_ptr J J .p1 J) J<|AM.guard_yes J J J<|AM.qv (q_move J) J<|AM.guard_yes J J J<|AM.qv (q_subw J J) J<|AM.guard_yes J J J<|bndE h fun v19 e10 h=>AM.qv (t_index J J J e10 J J) J<|AM.guard_yes J J J<|AM.qv (n_field_rptr J J) J<|AM.guard_yes J J J<|AM.qv (q_load_rptr J J J) J<|AM.guard_yes J J J<|AM.qv (t_sleq J J) J<|AM.qv (q_pick_t J J) J<|AM.qv (q_assign J) J<|AM.nil<|rN<|ATodo.stop<|ImpX.lq [1,0] ⟨Op.bytesLess v15.Name v19.Name || v15.Name == v19.Name,h,J⟩ J J
                              · exact have h := iteF hc h; AM.guard_no J J J J<|AM.guard_no J J J J<|AM.guard_no J J J J<|AM.guard_no J J J J<|AM.guard_no J J J J<|AM.guard_no J J J J<|AM.guard_no J J J J<|AM.guard_no J J J J<|AM.guard_no J J J J<|AM.qv (q_pick_f J J) J<|AM.qv (q_assign J) J<|AM.nil<|rN<|ATodo.stop<|ImpX.lq [1,0] ⟨false,h,J⟩ J J
                            · rintro σ' ⟨c18, h, rfl⟩
                              unfold Q_ModelsFault_j3 at h
                              refine ATodo.cond J (fun hc=>?_) (fun hc=>?_)
                              · refine have h := iteT hc h; tSR<|rA J J<|rN<|ATodo.ret<|have h := outL h hA2; have h := outL h hA1; ?_
                                obtain rfl := Option.some.inj h
                                exact ImpX.here ⟨_,.cons (.tmp _ _ J) .nil,J⟩
                              · refine have h := iteFb hc h; tSR<|rF J J J<|rL J J .p1 J J<|r_callp J (Q_in_c J) (CoL.refl _) J<|ARun.qv (q_not J) J<|rA J J<|rN<|ATodo.cond J (fun hc=>?_) (fun hc=>?_)
                                · refine have h := iteT hc h; tSR<|rA J J<|rN<|ATodo.ret<|have h := outL h hA2; have h := outL h hA1; ?_
                                  obtain rfl := Option.some.inj h
                                  exact ImpX.here ⟨_,.cons (.tmp _ _ J) .nil,J⟩
                                · refine have h := iteFb hc h; tS<|ATodo.cut (fun σ'=>∃ (c20 : Bool),Q_ModelsFault_j4 n14 v15 c20 = some z2 ∧ σ' = ⟨127,[(0,lE3 p0x0),(4,.ptr b4 0),(6,.ptr b16 0),(7,.bool (decide (v15.Kind = (2 : Int)))),(11,lE3 p0x0),(12,I (p0x0.length : Int)),(13,I n2),(62,lE2 v3.Props),(63,I (v3.Props.length : Int)),(64,I n14),(97,.bool c20)],[(b4,.cells [.str v3.Key,.str v3.Prefix,lE2 v3.Props]),(b16,.cells (cE0 v15))]⟩) ?_ ?_
                                  · refine tR<|rM J J<|rM J J<|ARun.guard_dt J J J (fun hc=>?_) (fun hc=>?_)
                                    · rw [andTd hc] at h
                                      refine rF J J J<|rY J J J<|rL J J .p1 J J<|rY J J J<|rF J J J<|rY J J J<|rL J J .p1 J J<|rY J J J<|r_callp J (Q_in_c J) (CoL.refl _) J<|rY J J J<|ARun.qv (q_not J) J<|rY J J J<|rM J J<|ARun.guard J J J (fun hc=>?_) (fun hc=>?_)
                                      · rw [orFb hc] at h
                                        exact rF J J J<|rY J J J<|rL J J .p1 J J<|rY J J J<|ARun.qv (q_gtr J J) J<|rY J J J<|rE J J J<|rT J J J<|rA J J<|rN<|ATodo.stop<|ImpX.lq [0,0] ⟨decide ((1000000000 : Int) < v15.High),h,J⟩ J J
                                      · rw [orTb hc] at h
                                        exact rG J J J J<|rG J J J J<|rY J J J<|rT J J J<|rT J J J<|rA J J<|rN<|ATodo.stop<|ImpX.lq [0,0] ⟨true,h,J⟩ J J
                                    · rw [andFd hc] at h
                                      exact rG J J J J<|rG J J J J<|rG J J J J<|rG J J J J<|rG J J J J<|rG J J J J<|ARun.guard_und J J J<|ARun.guard_und J J J<|ARun.guard_und J J J<|rG J J J J<|rE J J J<|rA J J<|rN<|ATodo.stop<|ImpX.lq [0,0] ⟨false,h,J⟩ J J
                                  · rintro σ' ⟨c20, h, rfl⟩
                                    unfold Q_ModelsFault_j4 at h
                                    refine ATodo.cond J (fun hc=>?_) (fun hc=>?_)
                                    · refine have h := iteT hc h; tSR<|rA J J<|rN<|ATodo.ret<|have h := outL h hA2; have h := outL h hA1; ?_
                                      obtain rfl := Option.some.inj h
                                      exact ImpX.here ⟨_,.cons (.tmp _ _ J) .nil,J⟩
                                    · refine have h := iteFb hc h; tS<|ATodo.cut (fun σ'=>∃ (c21 : Bool),Q_ModelsFault_j5 n14 c21 = some z2 ∧ σ' = ⟨127,[(0,lE3 p0x0),(4,.ptr b4 0),(11,lE3 p0x0),(12,I (p0x0.length : Int)),(13,I n2),(62,lE2 v3.Props),(63,I (v3.Props.length : Int)),(64,I n14),(112,.bool c21)],[(b4,.cells [.str v3.Key,.str v3.Prefix,lE2 v3.Props])]⟩) ?_ ?_
                                      · refine tR<|rM J J<|ARun.qv (q_not_d J) J<|rM J J<|ARun.guard_dt J J J (fun hc=>?_) (fun hc=>?_)
                                        · rw [andTd hc] at h
                                          refine rF J J J<|rY J J J<|rL J J .p1 J J<|rY J J J<|ARun.qv (q_neq J J) J<|rY J J J<|rM J J<|ARun.guard_df J J J (fun hc=>?_) (fun hc=>?_)
                                          · rw [orFd hc] at h
                                            exact rF J J J<|rY J J J<|rL J J .p1 J J<|rY J J J<|ARun.qv (q_neq J J) J<|rY J J J<|rE J J J<|rT J J J<|rA J J<|rN<|ATodo.stop<|ImpX.lq [0] ⟨decide (v15.High ≠ (0 : Int)),h,J⟩ J J
                                          · rw [orTd hc] at h
                                            exact rG J J J J<|rG J J J J<|rY J J J<|rT J J J<|rT J J J<|rA J J<|rN<|ATodo.stop<|ImpX.lq [0] ⟨true,h,J⟩ J J
                                        · rw [andFd hc] at h
                                          exact rG J J J J<|rG J J J J<|rG J J J J<|ARun.guard_und J J J<|ARun.guard_und J J J<|ARun.guard_und J J J<|rG J J J J<|rE J J J<|rA J J<|rN<|ATodo.stop<|ImpX.lq [0] ⟨false,h,J⟩ J J
                                      · rintro σ' ⟨c21, h, rfl⟩
                                        unfold Q_ModelsFault_j5 at h
                                        refine ATodo.cond J (fun hc=>?_) (fun hc=>?_)
                                        · refine have h := iteT hc h; tSR<|rA J J<|rN<|ATodo.ret<|have h := outL h hA2; have h := outL h hA1; ?_
                                          obtain rfl := Option.some.inj h
                                          exact ImpX.here ⟨_,.cons (.tmp _ _ J) .nil,J⟩
                                        · refine have h := iteFb hc h; tK<|ATodo.blk<|ATodo.blk<|tR<|ARun.qv (q_addw J J) J<|rM J J<|rN<|ATodo.stop<|?_
                                          obtain rfl := Option.some.inj h
                                          exact hJ2 _ _ J<|ImpX.lq [0] J J J
                        · refine have h := iteF hc h; ATodo.exit J<|have h := outL h hA2; ATodo.blk<|tR<|ARun.qv (q_addw J J) J<|rM J J<|rN<|ATodo.stop<|?_
                          obtain rfl := Option.some.inj h
                          exact hJ1 _ _ J<|ImpX.lq [] J J J
      · refine have h := iteF hc h; ATodo.exit J<|have h := outL h hA1; tSR<|rA J J<|rN<|ATodo.ret<|?_
        obtain rfl := Option.some.inj h
        exact ImpX.here ⟨_,.cons (.tmp _ _ J) .nil,J⟩

theorem L_deviced_c {r : Bool} (h : L_deviced = some r) : Pu Tryz.prog 15 [] (.bool r) := by
  unfold L_deviced at h
  refine ACall.bodyN Tryz.func15 J Tryz.ntmps15 Tryz.results15 J J ?_
  refine tSR<|rA J J<|rN<|tSR<|ARun.qv (n_build J J J J J) J<|n_buildSliceL (xs := [.agg [.str ([109] : Str),.str ([65,66] : Str),.nil]]) J J J J J J<|ARun.ghost<|ImpX.cox (s := 5) (av' := .list 3 (([(⟨([109] : Str),([65,66] : Str),[]⟩ : Model)] : List Model).map Model.av)) J (CoX.listL (.cons .r (.cons .r (.cons .n .nil))) J J)<|ImpX.here<|bndE h fun v1 e1 h=>r_callp J (device_Serial_c e1) (CoL.refl _) J<|rM J J<|rX J J J<|rX J J J<|rA J J<|rA J J<|rN<|tS<|ATodo.cut (fun σ'=>∃ (c2 : Bool),L_deviced_j1 c2 = some r ∧ σ' = ⟨15,[(0,.bool c2)],[]⟩) ?_ ?_
  · refine tR<|rM J J<|ARun.qv (q_eql J J) J<|rM J J<|ARun.guard_dt J J J (fun hc=>?_) (fun hc=>?_)
    · rw [andTd hc] at h
      exact rM J J<|rY J J J<|ARun.qv (q_seq J J) J<|rT J J J<|rA J J<|rN<|ATodo.stop<|ImpX.lq [] ⟨decide (v1.1 = ([65,66,45,48,48,48,48,48,48,48,55,45,77] : Str)),h,J⟩ J J
    · rw [andFd hc] at h
      exact rG J J J J<|rE J J J<|rA J J<|rN<|ATodo.stop<|ImpX.lq [] ⟨false,h,J⟩ J J
  · rintro σ' ⟨c2, h, rfl⟩
    unfold L_deviced_j1 at h
    refine ATodo.ret<|?_
    obtain rfl := Option.some.inj h
    exact ImpX.here ⟨_,.cons (.tmp _ _ J) .nil,J⟩

theorem Q_upper_c [GI : GTab] {p0x0 : Str} {r : Str} (h : Q_upper p0x0 = some r) : Pu Tryz.prog 76 [.str p0x0] (.str r) := by
  unfold Q_upper at h
  refine ACall.bodyN Tryz.func76 J Tryz.ntmps76 Tryz.results76 J J ?_
  refine tSR<|rA J J<|rN<|tSR<|rM J J<|t_conv_sbO J J fun b1=>rA J J<|rN<|tS<|tSR<|rM J J<|ARun.qv (t_len_sl J) J<|rM J J<|rN<|ATodo.block<|ATodo.loopI (fun x : (List Int) × Int=>Q_upper_b1 p0x0 x.1 x.2) (fun x σ'=>σ' = ⟨29,[(3,.sl 1 b1 0 x.1.length),(8,.sl 1 b1 0 x.1.length),(9,I ((bytesI p0x0).length : Int)),(10,I x.2)],[(b1,.bts x.1)]⟩) h ?_ ?_
  · exact ImpX.lq [0] J J J
  · intro x z1 σ' J1 hmk h hJ1 hA1
    obtain ⟨l4, n5⟩ := x
    obtain rfl := hmk
    replace h : Q_upper_b1 p0x0 l4 n5 = some z1 := h
    unfold Q_upper_b1 at h
    refine tSR<|ARun.qv (q_lss J J) J<|rN<|tS<|ATodo.cond_d J (fun hc=>?_) (fun hc=>?_)
    · refine have h := iteT hc h; tK<|tS<|ATodo.block<|tSR<|rM J J<|bndE h fun v6 e1 h=>ARun.qv (t_index_sl J J J e1) J<|ARun.qv (t_load_bts (Xs := l4) (j := n5) J J .p0 e1) J<|rA J J<|rA J J<|rN<|tS<|ATodo.cut (fun σ'=>∃ (c7 : Bool),Q_upper_j1 l4 n5 v6 c7 = some z1 ∧ σ' = ⟨29,[(3,.sl 1 b1 0 l4.length),(4,I n5),(5,.int .u8 v6),(8,.sl 1 b1 0 l4.length),(9,I ((bytesI p0x0).length : Int)),(10,I n5),(20,.bool c7)],[(b1,.bts l4)]⟩) ?_ ?_
      · refine tR<|rM J J<|ARun.qv (q_geq J J) J<|rM J J<|ARun.guard_dt J J J (fun hc=>?_) (fun hc=>?_)
        · rw [andTd hc] at h
          exact rM J J<|rY J J J<|ARun.qv (q_leq J J) J<|rT J J J<|rN<|ATodo.stop<|ImpX.lq [0] ⟨decide (v6 ≤ (122 : Int)),h,J⟩ J J
        · rw [andFd hc] at h
          exact rG J J J J<|rE J J J<|rN<|ATodo.stop<|ImpX.lq [0] ⟨false,h,J⟩ J J
      · rintro σ' ⟨c7, h, rfl⟩
        unfold Q_upper_j1 at h
        refine ATodo.cut (fun σ'=>∃ (l8 : List Int),Q_upper_j2 n5 l8 = some z1 ∧ σ' = ⟨29,[(3,.sl 1 b1 0 l8.length),(8,.sl 1 b1 0 l8.length),(9,I ((bytesI p0x0).length : Int)),(10,I n5)],[(b1,.bts l8)]⟩) ?_ ?_
        · refine ATodo.cond J (fun hc=>?_) (fun hc=>?_)
          · exact have h := iteT hc h; tR<|rM J J<|rM J J<|rM J J<|ARun.qv (q_subw J J) J<|bndE h fun v9 e2 h=>ARun.qv (t_index_sl J J J e2) J<|t_store_bts (Xs := l4) (z := IntKind.u8.wrap (v6 - (32 : Int))) (j := n5) J J J e2 .p0<|ARun.ghost<|ImpX.eqs (s := 3) (av' := .sl 1 b1 0 (l4.set n5.toNat (IntKind.u8.wrap (v6 - (32 : Int)))).length) J (by rw [List.length_set])<|ImpX.here<|ARun.ghost<|ImpX.eqs (s := 8) (av' := .sl 1 b1 0 (l4.set n5.toNat (IntKind.u8.wrap (v6 - (32 : Int)))).length) J (by rw [List.length_set])<|ImpX.here<|ARun.ghost<|ImpX.eqs (s := 21) (av' := .sl 1 b1 0 (l4.set n5.toNat (IntKind.u8.wrap (v6 - (32 : Int)))).length) J (by rw [List.length_set])<|ImpX.here<|rN<|ATodo.stop<|ImpX.lq [0] ⟨l4.set n5.toNat (IntKind.u8.wrap (v6 - (32 : Int))),h,J⟩ J J
          · exact have h := iteFb hc h; tK<|ATodo.stop<|ImpX.lq [0] ⟨l4,h,J⟩ J J
        · rintro σ' ⟨l8, h, rfl⟩
          unfold Q_upper_j2 at h
          refine ATodo.blk<|tR<|ARun.qv (q_addw J J) J<|rM J J<|rN<|ATodo.stop<|?_
          obtain rfl := Option.some.inj h
          exact hJ1 _ _ J<|ImpX.lq [0] J J J
    · refine have h := iteF hc h; ATodo.exit J<|have h := outL h hA1; tSR<|rM J J<|ARun.qv (q_conv_bs J (CoB.bts .p0)) J<|rA J J<|rN<|ATodo.ret<|?_
      obtain rfl := Option.some.inj h
      exact ImpX.here ⟨_,.cons (.tmp _ _ J) .nil,J⟩

theorem strings_Contains_c {p0x0 : Str} {p1x0 : Str} {r : Bool} (h : strings_Contains p0x0 p1x0 = some r) : Pu Tryz.prog 77 [.str p0x0,.str p1x0] (.bool r) := by
  unfold strings_Contains at h
  refine ACall.bodyN Tryz.func77 J Tryz.ntmps77 Tryz.results77 J J ?_
  refine tSR<|rA J J<|rN<|tSR<|rM J J<|rM J J<|bndE h fun v1 e1 h=>r_callp J (strings_Index_c e1) (CoL.refl _) J<|ARun.qv (q_geq J J) J<|rA J J<|rN<|ATodo.ret<|?_
  obtain rfl := Option.some.inj h
  exact ImpX.here ⟨_,.cons (.tmp _ _ J) .nil,J⟩

theorem Q_SerialRead_1x_c [GI : GTab] {p0x0 : Model} {p1x0 : List Str} {r : Bool} (h : Q_SerialRead_1x p0x0 p1x0 = some r) : Pu Tryz.prog 78 [Model.av p0x0,.rptr [lE1 p1x0]] (.bool r) := by
  unfold Q_SerialRead_1x at h
  refine ACall.bodyN Tryz.func78 J Tryz.ntmps78 Tryz.results78 J J ?_
  refine tSR<|n_box J J J J fun b1=>rA J J<|rN<|tS<|ATodo.regionM (id := 1) (A := [0,1,0,4,12,31,63]) 7 mixed J (by kernel_rfl) (by kernel_rfl)<|AM.qv (n_field_ptr J J) J<|AM.qv (q_load_ptr J J .p0 J) J<|AM.qv (q_load_rptr J J J) J<|bndE h fun v2 e1 h=>AM.qv (t_index J J J e1 J J) J<|AM.qv (q_load_rptr J J J) J<|AM.qv (q_seq J J) J<|AM.qv (q_assign J) J<|AM.nil<|rN<|ATodo.ret<|?_
  obtain rfl := Option.some.inj h
  exact ImpX.here ⟨_,.cons (.tmp _ _ J) .nil,J⟩

theorem Q_SerialRead_c {p0x0 : List Model} {p1x0 : Str} {r : Str × Int × Int} (h : Q_SerialRead p0x0 p1x0 = some r) : Pu Tryz.prog 17 [lE3 p0x0,.str p1x0] (.tup [.str r.1,I r.2.1,I r.2.2]) := by
  unfold Q_SerialRead at h
  refine ACall.bodyN Tryz.func17 J Tryz.ntmps17 Tryz.results17 J J ?_
  refine tSR<|rA J J<|rA J J<|rA J J<|rN<|tSR<|rM J J<|bndE h fun v1 e1 h=>r_callp J (Q_upper_c e1) (CoL.refl _) J<|bndE h fun v2 e2 h=>t_call1 J (strings_Split_c e2) (CoL.refl _) .nil (fun _=>J) J fun b3=>n_alloc J J J J fun b4=>n_store_ptr J J J J .p0 J J<|rN<|tS<|tS<|ATodo.cut (fun σ'=>∃ (c5 : Bool),Q_SerialRead_j1 p0x0 p1x0 v2 c5 = some r ∧ σ' = ⟨92,[(0,lE3 p0x0),(1,.str p1x0),(7,.ptr b4 0),(60,.bool c5)],[(b4,.cells [.sl 1 b3 0 v2.length]),(b3,aE1 v2)]⟩) ?_ ?_
  · refine ATodo.regionM (id := 2) (A := [0,1,3,7,15,31,63,127,255,511,1023,2047,4095,8191,16383,4095,65535,131071,262143,524287,1048575,2097151,4194303,8388607,16777215,33554431,67108863,134217727,268435455,536870911,1073741823,2147483647,4294967295,8589934591,17179869183,34359738367,68719476735,137438953471,274877906943,549755813887,1099511627775,2199023255551,4398046511103,8796093022207,17592186044415,35184372088831,70368744177663]) 47 mixed J (by kernel_rfl) (by kernel_rfl)<|AM.qv (q_load_ptr J J .p0 J) J<|AM.qv (t_len_sl J) J<|AM.qv (q_neq J J) J<|AM.qv (q_move J) J<|AM.guard_df J J J (fun hc=>?_) (fun hc=>?_)
    · refine have h := iteF hc h; AM.qv (q_load_ptr J J .p0 J) J<|AM.guard_yes J J J<|bndE h fun v6 e3 h=>AM.qv (t_index_sl J J J e3) J<|AM.guard_yes J J J<|AM.qv (t_load_aptr (g := AV.str) J J (.inl .p1) e3 J) J<|AM.guard_yes J J J<|AM.qv (q_len_str J) J<|AM.guard_yes J J J<|AM.callp J (Q_in_c J) (CoL.refl _) J<|AM.guard_yes J J J<|AM.qv (q_not J) J<|AM.qv (q_pick_f J J) J<|AM.qv (q_move J) J<|AM.guard J J J (fun hc=>?_) (fun hc=>?_)
      · refine have h := iteFb hc h; AM.qv (q_load_ptr J J .p0 J) J<|AM.guard_yes J J J<|bndE h fun v7 e4 h=>AM.qv (t_index_sl J J J e4) J<|AM.guard_yes J J J<|AM.qv (t_load_aptr (g := AV.str) J J (.inl .p1) e4 J) J<|AM.guard_yes J J J<|bndE h fun v8 e5 h=>AM.callp J (strings_ToUpper_c e5) (CoL.refl _) J<|AM.guard_yes J J J<|bndE h fun v9 e6 h=>AM.callp J (strings_Trim_c e6) (CoL.refl _) J<|AM.guard_yes J J J<|AM.qv (q_sne J J) J<|AM.qv (q_pick_f J J) J<|AM.qv (q_move J) J<|AM.guard_df J J J (fun hc=>?_) (fun hc=>?_)
        · refine have h := iteF hc h; AM.qv (q_load_ptr J J .p0 J) J<|AM.guard_yes J J J<|bndE h fun v10 e7 h=>AM.qv (t_index_sl J J J e7) J<|AM.guard_yes J J J<|AM.qv (t_load_aptr (g := AV.str) J J (.inl .p1) e7 J) J<|AM.guard_yes J J J<|AM.qv (q_len_str J) J<|AM.guard_yes J J J<|AM.qv (q_neq J J) J<|AM.qv (q_pick_f J J) J<|AM.qv (q_move J) J<|AM.guard_df J J J (fun hc=>?_) (fun hc=>?_)
          · refine have h := iteF hc h; AM.qv (q_load_ptr J J .p0 J) J<|AM.guard_yes J J J<|bndE h fun v11 e8 h=>AM.qv (t_index_sl J J J e8) J<|AM.guard_yes J J J<|AM.qv (t_load_aptr (g := AV.str) J J (.inl .p1) e8 J) J<|AM.guard_yes J J J<|bndE h fun v12 e9 h=>AM.callp J (strings_Trim_c e9) (CoL.refl _) J<|AM.guard_yes J J J<|AM.qv (q_sne J J) J<|AM.qv (q_pick_f J J) J<|AM.qv (q_move J) J<|AM.guard_df J J J (fun hc=>?_) (fun hc=>?_)
            · refine have h := iteF hc h; AM.qv (q_load_ptr J J .p0 J) J<|AM.guard_yes J J J<|bndE h fun v13 e10 h=>AM.qv (t_index_sl J J J e10) J<|AM.guard_yes J J J<|AM.qv (t_load_aptr (g := AV.str) J J (.inl .p1) e10 J) J<|AM.guard_yes J J J<|AM.qv (q_len_str J) J<|AM.guard_yes J J J<|AM.qv (q_neq J J) J<|AM.qv (q_pick_f J J) J<|AM.qv (q_move J) J<|AM.guard_df J J J (fun hc=>?_) (fun hc=>?_)
              · exact have h := iteF hc h; AM.qv (q_load_ptr J J .p0 J) J<|AM.guard_yes J J J<|bndE h fun v14 e11 h=>AM.qv (t_index_sl J J J e11) J<|AM.guard_yes J J J<|AM.qv (t_load_aptr (g := AV.str) J J (.inl .p1) e11 J) J<|AM.guard_yes J J J<|bndE h fun v15 e12 h=>AM.callp J (strings_Contains_c e12) (CoL.refl _) J<|AM.guard_yes J J J<|AM.qv (q_not J) J<|AM.qv (q_pick_f J J) J<|AM.nil<|rN<|ATodo.stop<|ImpX.lq [0,0] ⟨!v15,h,J⟩ J J
              · exact have h := iteT hc h; AM.guard_no J J J J<|AM.guard_no J J J J<|AM.guard_no J J J J<|AM.guard_no J J J J<|AM.qv (q_pick_t J J) J<|AM.nil<|rN<|ATodo.stop<|ImpX.lq [0,0] ⟨true,h,J⟩ J J
            · exact have h := iteT hc h; AM.guard_no J J J J<|AM.guard_no J J J J<|AM.guard_no J J J J<|AM.guard_no J J J J<|AM.qv (q_pick_t J J) J<|AM.qv (q_move J) J<|AM.guard_no J J J J<|AM.guard_no J J J J<|AM.guard_no J J J J<|AM.guard_no J J J J<|AM.guard_no J J J J<|AM.qv (q_pick_t J J) J<|AM.nil<|rN<|ATodo.stop<|ImpX.lq [0,0] ⟨true,h,J⟩ J J
          · exact have h := iteT hc h; AM.guard_no J J J J<|AM.guard_no J J J J<|AM.guard_no J J J J<|AM.guard_no J J J J<|AM.qv (q_pick_t J J) J<|AM.qv (q_move J) J<|AM.guard_no J J J J<|AM.guard_no J J J J<|AM.guard_no J J J J<|AM.guard_no J J J J<|AM.guard_no J J J J<|AM.qv (q_pick_t J J) J<|AM.qv (q_move J) J<|AM.guard_no J J J J<|AM.guard_no J J J J<|AM.guard_no J J J J<|AM.guard_no J J J J<|AM.guard_no J J J J<|AM.qv (q_pick_t J J) J<|AM.nil<|rN<|ATodo.stop<|ImpX.lq [0,0] ⟨true,h,J⟩ J J
        · exact have h := iteT hc h; AM.guard_no J J J J<|AM.guard_no J J J J<|AM.guard_no J J J J<|AM.guard_no J J J J<|AM.qv (q_pick_t J J) J<|AM.qv (q_move J) J<|AM.guard_no J J J J<|AM.guard_no J J J J<|AM.guard_no J J J J<|AM.guard_no J J J J<|AM.guard_no J J J J<|AM.qv (q_pick_t J J) J<|AM.qv (q_move J) J<|AM.guard_no J J J J<|AM.guard_no J J J J<|AM.guard_no J J J J<|AM.guard_no J J J J<|AM.guard_no J J J J<|AM.qv (q_pick_t J J) J<|AM.qv (q_move J) J<|AM.guard_no J J J J<|AM.guard_no J J J J<|AM.guard_no J J J J<|AM.guard_no J J J J<|AM.guard_no J J J J<|AM.qv (q_pick_t J J) J<|AM.nil<|rN<|ATodo.stop<|ImpX.lq [0,0] ⟨true,h,J⟩ J J
      · exact have h := iteT hc h; AM.guard_no J J J J<|AM.guard_no J J J J<|AM.guard_no J J J J<|AM.guard_no J J J J<|AM.guard_no J J J J<|AM.qv (q_pick_t J J) J<|AM.qv (q_move J) J<|AM.guard_no J J J J<|AM.guard_no J J J J<|AM.guard_no J J J J<|AM.guard_no J J J J<|AM.guard_no J J J J<|AM.qv (q_pick_t J J) J<|AM.qv (q_move J) J<|AM.guard_no J J J J<|AM.guard_no J J J J<|AM.guard_no J J J J<|AM.guard_no J J J J<|AM.guard_no J J J J<|AM.qv (q_pick_t J J) J<|AM.qv (q_move J) J<|AM.guard_no J J J J<|AM.guard_no J J J J<|AM.guard_no J J J J<|AM.guard_no J J J J<|AM.guard_no J J J J<|AM.qv (q_pick_t J J) J<|AM.qv (q_move J) J<|AM.guard_no J J J J<|AM.guard_no J J J J<|AM.guard_no J J J J<|AM.guard_no J J J J<|AM.guard_no J J J J<|AM.qv (q_pick_t J J) J<|AM.nil<|rN<|ATodo.stop<|ImpX.lq [0,0] ⟨true,h,J⟩ J J
    · exact have h := iteT hc h; AM.guard_no J J J J<|AM.guard_no J J J J<|AM.guard_no J J J J<|AM.guard_no J J J J<|AM.guard_no J J J J<|AM.qv (q_pick_t J J) J<|AM.qv (q_move J) J<|AM.guard_no J J J J<|AM.guard_no J J J J<|AM.guard_no J J J J<|AM.guard_no J J J J<|AM.guard_no J J J J<|AM.guard_no J J J J<|AM.qv (q_pick_t J J) J<|AM.qv (q_move J) J<|AM.guard_no J J J J<|AM.guard_no J J J J<|AM.guard_no J J J J<|AM.guard_no J J J J<|AM.guard_no J J J J<|AM.qv (q_pick_t J J) J<|AM.qv (q_move J) J<|AM.guard_no J J J J<|AM.guard_no J J J J<|AM.guard_no J J J J<|AM.guard_no J J J J<|AM.guard_no J J J J<|AM.qv (q_pick_t J J) J<|AM.qv (q_move J) J<|AM.guard_no J J J J<|AM.guard_no J J J J<|AM.guard_no J J J J<|AM.guard_no J J J J<|AM.guard_no J J J J<|AM.qv (q_pick_t J J) J<|AM.qv (q_move J) J<|AM.guard_no J J J J<|AM.guard_no J J J J<|AM.guard_no J J J J<|AM.guard_no J J J J<|AM.guard_no J J J J<|AM.qv (q_pick_t J J) J<|AM.nil<|rN<|ATodo.stop<|ImpX.lq [0,0] ⟨true,h,J⟩ J J
  · rintro σ' ⟨c5, h, rfl⟩
    unfold Q_SerialRead_j1 at h
    refine ATodo.cond J (fun hc=>?_) (fun hc=>?_)
    · refine have h := iteT hc h; tSR<|rA J J<|rA J J<|rA J J<|rN<|ATodo.ret<|?_
      obtain rfl := Option.some.inj h
      exact ImpX.here ⟨_,.cons (.tmp _ _ J) (.cons (.tmp _ _ J) (.cons (.tmp _ _ J) .nil)),J⟩
    · refine have h := iteFb hc h; tK<|tSR<|rM J J<|ARun.qv (q_makeFunc J) J<|bndE h fun v16 e13 h=>r_callpB J (slices_IndexFunc_Model_Model_c (fun e=>Q_SerialRead_1x_c e) e13) (.cons (.co (.refl _)) (.cons (.funcL _ _ _ (.cons (.boxL _ _ _ .p0 (.cons (CoB.arrT .p1) .nil)) .nil)) .nil)) J J<|rA J J<|rN<|tSR<|rL J J .p0 J J<|bndE h fun v17 e14 h=>ARun.qv (t_index_sl J J J e14) J<|ARun.qv (t_load_aptr (g := AV.str) J J (.inl .p1) e14 J) J<|bndE h fun v18 e15 h=>t_callE J (strconv_Atoi_c e15) (CoL.refl _) J fun e19 e16=>rM J J<|rX J J J<|rX J J J<|rA J J<|rA J J<|rN<|tS<|ATodo.block<|tSR<|rM J J<|ARun.qv (q_lss J J) J<|rA J J<|rN<|ATodo.cond_d J (fun hc=>?_) (fun hc=>?_)
      · refine have h := iteT hc h; tSR<|rA J J<|rA J J<|rA J J<|rN<|ATodo.ret<|?_
        obtain rfl := Option.some.inj h
        exact ImpX.here ⟨_,.cons (.tmp _ _ J) (.cons (.tmp _ _ J) (.cons (.tmp _ _ J) .nil)),J⟩
      · refine have h := iteF hc h; tSR<|rM J J<|ARun.qv (q_eql J J) J<|rA J J<|rN<|ATodo.cond_d J (fun hc=>?_) (fun hc=>?_)
        · refine have h := iteT hc h; tSR<|rA J J<|rA J J<|rA J J<|rN<|ATodo.ret<|?_
          obtain rfl := Option.some.inj h
          exact ImpX.here ⟨_,.cons (.tmp _ _ J) (.cons (.tmp _ _ J) (.cons (.tmp _ _ J) .nil)),J⟩
        · refine have h := iteF hc h; tSR<|rL J J .p0 J J<|bndE h fun v20 e17 h=>ARun.qv (t_index_sl J J J e17) J<|ARun.qv (t_load_aptr (g := AV.str) J J (.inl .p1) e17 J) J<|rM J J<|bndE h fun v21 e18 h=>r_callp J (Q_serialOf_c e18) (CoL.refl _) J<|rM J J<|bndE h fun v22 e19 h=>r_callp J (Q_upper_c e19) (CoL.refl _) J<|ARun.qv (q_sne J J) J<|rA J J<|rN<|ATodo.cond_d J (fun hc=>?_) (fun hc=>?_)
          · refine have h := iteT hc h; tSR<|rA J J<|rA J J<|rA J J<|rN<|ATodo.ret<|?_
            obtain rfl := Option.some.inj h
            exact ImpX.here ⟨_,.cons (.tmp _ _ J) (.cons (.tmp _ _ J) (.cons (.tmp _ _ J) .nil)),J⟩
          · refine have h := iteF hc h; tK<|ATodo.blk<|tSR<|rM J J<|rM J J<|bndE h fun v23 e20 h=>ARun.qv (t_index J J J e20 J J) J<|ARun.qv (n_field_rptr J J) J<|ARun.qv (q_load_rptr J J J) J<|rM J J<|rA J J<|rA J J<|rA J J<|rN<|ATodo.ret<|?_
            obtain rfl := Option.some.inj h
            exact ImpX.here ⟨_,.cons (.tmp _ _ J) (.cons (.tmp _ _ J) (.cons (.tmp _ _ J) .nil)),J⟩

theorem L_SerialsRead_c {p0x0 : List Int} {r : Bool} (h : L_SerialsRead p0x0 = some r) : Pu Tryz.prog 3 [lE0 p0x0] (.bool r) := by
  unfold L_SerialsRead at h
  refine ACall.bodyN Tryz.func3 J Tryz.ntmps3 Tryz.results3 J J ?_
  refine tSR<|rA J J<|rN<|tSR<|rM J J<|ARun.qv (n_build J J J J J) J<|n_box J J J J fun b1=>rA J J<|rN<|tSR<|rM J J<|bndE h fun v2 e1 h=>t_call0 J (Stream_Kinds_c e1) (CoL.refl _) (.cons .p0 .nil) J J<|rA J J<|rN<|tSR<|rM J J<|n_buildSliceL (xs := ([([109,97] : Str),([109,98] : Str),([110,111,110,101] : Str)]).map AV.str) J J J J J J<|bndE h fun v3 e2 h=>t_call0 J (Stream_Some_c e2) (CoL.refl _) (.cons .p0 .nil) J J<|rM J J<|rM J J<|bndE h fun v4 e3 h=>t_call0 J (Stream_Next_c e3) (CoL.refl _) (.cons .p0 .nil) J J<|n_buildSliceL (xs := ([(1 : Int),(7 : Int),(99 : Int),(99999999 : Int),(0 : Int),(100000000 : Int),v4.1]).map I) J J J J J J<|bndE h fun v5 e4 h=>t_call0 J (Stream_Pick_c e4) (CoL.refl _) (.cons .p0 .nil) J J<|rM J J<|rM J J<|bndE h fun v6 e5 h=>t_call0 J (Stream_SerialText_c e5) (CoL.refl _) (.cons .p0 .nil) J J<|rA J J<|rA J J<|rA J J<|rN<|tSR<|rM J J<|rM J J<|rM J J<|bndE h fun v7 e6 h=>r_callp J (device_Serial_c e6) (CoL.refl _) J<|rM J J<|rX J J J<|rX J J J<|rA J J<|rA J J<|rN<|tSR<|rM J J<|rM J J<|bndE h fun v8 e7 h=>r_callp J (device_ReadSerial_c e7) (CoL.refl _) J<|rM J J<|rX J J J<|rX J J J<|rX J J J<|rA J J<|rA J J<|rA J J<|rN<|tSR<|rM J J<|bndE h fun v9 e8 h=>r_callp J (Q_ModelsFault_c e8) (CoL.refl _) J<|rA J J<|rN<|tS<|tSR<|rM J J<|bndE h fun v10 e9 h=>r_callp J (device_CheckModels_c e9) (CoL.refl _) J<|rM J J<|ARun.qv (q_neq J J) J<|rN<|ATodo.cond_d J (fun hc=>?_) (fun hc=>?_)
  · refine have h := iteT hc h; tSR<|rA J J<|rN<|ATodo.ret<|?_
    obtain rfl := Option.some.inj h
    exact ImpX.here ⟨_,.cons (.tmp _ _ J) .nil,J⟩
  · refine have h := iteF hc h; tK<|tS<|tSR<|rM J J<|ARun.qv (q_neq J J) J<|rN<|ATodo.cond_d J (fun hc=>?_) (fun hc=>?_)
    · refine have h := iteT hc h; tS<|ATodo.cut (fun σ'=>∃ (c11 : Bool),L_SerialsRead_j1 c11 = some r ∧ σ' = ⟨116,[(2,.bool c11)],[]⟩) ?_ ?_
      · refine tR<|rM J J<|rM J J<|ARun.qv (q_eql J J) J<|rM J J<|ARun.guard_dt J J J (fun hc=>?_) (fun hc=>?_)
        · refine have h := iteT hc h; rM J J<|rY J J J<|rM J J<|rY J J J<|ARun.qv (q_eql J J) J<|rT J J J<|rM J J<|ARun.guard_dt J J J (fun hc=>?_) (fun hc=>?_)
          · refine have h := iteT hc h; rM J J<|rY J J J<|ARun.qv (q_seq J J) J<|rT J J J<|rM J J<|ARun.guard_dt J J J (fun hc=>?_) (fun hc=>?_)
            · refine have h := iteT hc h; rM J J<|rY J J J<|ARun.qv (q_seq J J) J<|rT J J J<|rM J J<|ARun.guard_dt J J J (fun hc=>?_) (fun hc=>?_)
              · exact have h := iteT hc h; bndE h fun v12 e10 h=>r_callp J (L_deviced_c e10) (CoL.refl _) J<|rT J J J<|rA J J<|rN<|ATodo.stop<|ImpX.lq [] ⟨v12,h,J⟩ J J
              · exact have h := iteF hc h; rE J J J<|rA J J<|rN<|ATodo.stop<|ImpX.lq [] ⟨false,h,J⟩ J J
            · exact have h := iteF hc h; rG J J J J<|rE J J J<|rM J J<|rG J J J J<|rE J J J<|rA J J<|rN<|ATodo.stop<|ImpX.lq [] ⟨false,h,J⟩ J J
          · exact have h := iteF hc h; rG J J J J<|rE J J J<|rM J J<|rG J J J J<|rG J J J J<|rE J J J<|rM J J<|rG J J J J<|rE J J J<|rA J J<|rN<|ATodo.stop<|ImpX.lq [] ⟨false,h,J⟩ J J
        · exact have h := iteF hc h; rG J J J J<|rG J J J J<|rE J J J<|rM J J<|rG J J J J<|rG J J J J<|rE J J J<|rM J J<|rG J J J J<|rG J J J J<|rE J J J<|rM J J<|rG J J J J<|rE J J J<|rA J J<|rN<|ATodo.stop<|ImpX.lq [] ⟨false,h,J⟩ J J
      · rintro σ' ⟨c11, h, rfl⟩
        unfold L_SerialsRead_j1 at h
        refine ATodo.ret<|?_
        obtain rfl := Option.some.inj h
        exact ImpX.here ⟨_,.cons (.tmp _ _ J) .nil,J⟩
    · refine have h := iteF hc h; tK<|tSR<|rM J J<|rM J J<|rM J J<|bndE h fun v13 e11 h=>r_callp J (Q_SerialOf_c e11) (CoL.refl _) J<|rM J J<|rX J J J<|rX J J J<|rA J J<|rA J J<|rN<|tSR<|rM J J<|rM J J<|bndE h fun v14 e12 h=>r_callp J (Q_SerialRead_c e12) (CoL.refl _) J<|rM J J<|rX J J J<|rX J J J<|rX J J J<|rA J J<|rA J J<|rA J J<|rN<|tS<|ATodo.cut (fun σ'=>∃ (c15 : Bool),L_SerialsRead_j2 c15 = some r ∧ σ' = ⟨116,[(2,.bool c15)],[]⟩) ?_ ?_
      · refine tR<|rM J J<|rM J J<|ARun.qv (q_eql J J) J<|rM J J<|ARun.guard_dt J J J (fun hc=>?_) (fun hc=>?_)
        · refine have h := iteT hc h; rM J J<|rY J J J<|rM J J<|rY J J J<|ARun.qv (q_seq J J) J<|rT J J J<|rM J J<|ARun.guard_dt J J J (fun hc=>?_) (fun hc=>?_)
          · refine have h := iteT hc h; rM J J<|rY J J J<|rM J J<|rY J J J<|ARun.qv (q_eql J J) J<|rT J J J<|rM J J<|ARun.guard_dt J J J (fun hc=>?_) (fun hc=>?_)
            · refine have h := iteT hc h; rM J J<|rY J J J<|rM J J<|rY J J J<|ARun.qv (q_seq J J) J<|rT J J J<|rM J J<|ARun.guard_dt J J J (fun hc=>?_) (fun hc=>?_)
              · refine have h := iteT hc h; rM J J<|rY J J J<|rM J J<|rY J J J<|ARun.qv (q_eql J J) J<|rT J J J<|rM J J<|ARun.guard_dt J J J (fun hc=>?_) (fun hc=>?_)
                · exact have h := iteT hc h; bndE h fun v16 e13 h=>r_callp J (L_deviced_c e13) (CoL.refl _) J<|rT J J J<|rA J J<|rN<|ATodo.stop<|ImpX.lq [] ⟨v16,h,J⟩ J J
                · exact have h := iteF hc h; rE J J J<|rA J J<|rN<|ATodo.stop<|ImpX.lq [] ⟨false,h,J⟩ J J
              · exact have h := iteF hc h; rG J J J J<|rG J J J J<|rE J J J<|rM J J<|rG J J J J<|rE J J J<|rA J J<|rN<|ATodo.stop<|ImpX.lq [] ⟨false,h,J⟩ J J
            · exact have h := iteF hc h; rG J J J J<|rG J J J J<|rE J J J<|rM J J<|rG J J J J<|rG J J J J<|rG J J J J<|rE J J J<|rM J J<|rG J J J J<|rE J J J<|rA J J<|rN<|ATodo.stop<|ImpX.lq [] ⟨false,h,J⟩ J J
          · exact have h := iteF hc h; rG J J J J<|rG J J J J<|rE J J J<|rM J J<|rG J J J J<|rG J J J J<|rG J J J J<|rE J J J<|rM J J<|rG J J J J<|rG J J J J<|rG J J J J<|rE J J J<|rM J J<|rG J J J J<|rE J J J<|rA J J<|rN<|ATodo.stop<|ImpX.lq [] ⟨false,h,J⟩ J J
        · exact have h := iteF hc h; rG J J J J<|rG J J J J<|rE J J J<|rM J J<|rG J J J J<|rG J J J J<|rG J J J J<|rE J J J<|rM J J<|rG J J J J<|rG J J J J<|rG J J J J<|rE J J J<|rM J J<|rG J J J J<|rG J J J J<|rG J J J J<|rE J J J<|rM J J<|rG J J J J<|rE J J J<|rA J J<|rN<|ATodo.stop<|ImpX.lq [] ⟨false,h,J⟩ J J
      · rintro σ' ⟨c15, h, rfl⟩
        unfold L_SerialsRead_j2 at h
        refine ATodo.ret<|?_
        obtain rfl := Option.some.inj h
        exact ImpX.here ⟨_,.cons (.tmp _ _ J) .nil,J⟩

end Go.Proofs.YtkggljololbmiaaGreatDoor

