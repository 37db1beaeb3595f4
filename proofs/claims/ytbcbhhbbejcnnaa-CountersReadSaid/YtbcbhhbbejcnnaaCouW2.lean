/- The code computes the plain functions: proofs written by shal.py. -/
import Derived.Test.YtbcbhhbbejcnnaaCouW1
set_option maxRecDepth 100000
set_option linter.unusedVariables false
set_option linter.unusedSimpArgs false
namespace Go.Proofs.Ytbcbhhbbejcnnaa
open Go Go.Eng Go.Proofs Go.Beacon
attribute [local irreducible] ARun ATodo AQ QV ACall ImpX AWp AM
set_option maxHeartbeats 4000000 in
theorem Q_GapsOf_c {p0x0 : List Sample} {p1x0 : Window} {p2x0 : Int} {r : (List Window)} (h : Q_GapsOf p0x0 p1x0 p2x0 = some r) : ACall Try.prog 47 [.list 4 (p0x0.map Sample.av), .agg [I p1x0.From, I p1x0.To], I p2x0] [] (T1 (fun d_0 => [(d_0, .arr 2 (r.map Window.av))]) (fun d_0 => .sl 2 d_0 0 r.length)) := by
  unfold Q_GapsOf at h
  refine ACall.lessH ?_
  refine ACall.bodyN Try.func47 rfl Try.ntmps47 Try.results47 rfl rfl ?_
  refine ATodo.seq ?_
  refine ATodo.region ?_
  refine n_box rfl rfl rfl rfl (fun b1 => ?_)
  refine ARun.qv (q_assign rfl) rfl ?_
  refine ARun.nil ?_
  refine ATodo.seq ?_
  refine ATodo.region ?_
  refine ARun.qv (n_field_ptr rfl rfl) rfl ?_
  refine ARun.qv (q_load_ptr rfl rfl .here rfl) rfl ?_
  refine n_buildSlice rfl rfl rfl rfl rfl rfl (fun b2 => ?_)
  refine ARun.qv (q_assign rfl) rfl ?_
  refine ARun.nil ?_
  refine ATodo.seq ?_
  refine ATodo.seq ?_
  refine ATodo.region ?_
  refine ARun.qv (q_move rfl) rfl ?_
  refine ARun.qv (t_len rfl) rfl ?_
  refine ARun.qv (q_move rfl) rfl ?_
  refine ARun.nil ?_
  refine ATodo.block ?_
  refine ATodo.loopI (fun x : (List Int) × Int => Q_GapsOf_b1 p0x0 p1x0 p2x0 x.1 x.2) (fun x σ' => ∃ (b6 : Bk), σ' = ⟨68, [(2, I p2x0), (4, .ptr b1 0), (7, .sl 1 b6 0 x.1.length), (15, .list 4 (p0x0.map Sample.av)), (16, I (p0x0.length : Int)), (17, I x.2)], [(b1, .cells [I p1x0.From, I p1x0.To]), (b6, .arr 1 (x.1.map I))]⟩) h ?_ ?_
  · exact ImpX.lessP (by exact ⟨rfl, rfl, rfl, rfl, rfl, rfl, True.intro⟩) (.cons (.next .here) (.cons .here .nil)) (ImpX.here ⟨b2, rfl⟩)
  · intro x z1 σ' J1 hmk h hJ1 hA1
    obtain ⟨l7, n8⟩ := x
    obtain ⟨b6, rfl⟩ := hmk
    replace h : Q_GapsOf_b1 p0x0 p1x0 p2x0 l7 n8 = some z1 := h
    unfold Q_GapsOf_b1 at h
    refine ATodo.seq ?_
    refine ATodo.region ?_
    refine ARun.qv (q_lss rfl rfl) rfl ?_
    refine ARun.nil ?_
    refine ATodo.seq ?_
    refine ATodo.cond_d rfl (fun hc => ?_) (fun hc => ?_)
    · replace h := iteT hc h
      refine ATodo.skip ?_
      refine ATodo.seq ?_
      refine ATodo.block ?_
      refine ATodo.seq ?_
      refine ATodo.region ?_
      obtain ⟨v9, e1, h⟩ := bnd h
      refine ARun.qv (t_index rfl rfl rfl e1 rfl rfl) rfl ?_
      refine ARun.qv (q_load_rptr_agg rfl rfl rfl) rfl ?_
      refine n_alloc rfl rfl rfl rfl (fun b10 => ?_)
      refine n_store_ptr rfl rfl rfl rfl .here rfl rfl ?_
      refine ARun.nil ?_
      refine ATodo.seq ?_
      refine ATodo.region ?_
      refine ARun.qv (n_field_ptr rfl rfl) rfl ?_
      refine ARun.qv (q_load_ptr rfl rfl .here rfl) rfl ?_
      refine ARun.qv (q_load_ptr_all rfl rfl (.next .here) rfl) rfl ?_
      refine r_callp rfl (Q_within_c rfl) (CoL.refl _) rfl ?_
      refine ARun.nil ?_
      refine ATodo.cut (fun σ' => ∃ (b11 : Bk) (l12 : List Int), Q_GapsOf_j1 n8 l12 = some z1 ∧ σ' = ⟨68, [(2, I p2x0), (4, .ptr b1 0), (7, .sl 1 b11 0 l12.length), (15, .list 4 (p0x0.map Sample.av)), (16, I (p0x0.length : Int)), (17, I n8)], [(b1, .cells [I p1x0.From, I p1x0.To]), (b11, .arr 1 (l12.map I))]⟩) ?_ ?_
      · refine ATodo.cond rfl (fun hc => ?_) (fun hc => ?_)
        · replace h := iteT hc h
          refine ATodo.region ?_
          refine ARun.qv (q_move rfl) rfl ?_
          refine ARun.qv (n_field_ptr rfl rfl) rfl ?_
          refine ARun.qv (q_load_ptr rfl rfl .here rfl) rfl ?_
          refine n_buildSliceL rfl rfl rfl rfl rfl rfl ?_
          obtain ⟨l13, e2, h⟩ := bnd h
          refine t_append (g := I) rfl rfl rfl rfl rfl rfl rfl rfl (.list _) e2 (fun _ => (.next (.next .here))) rfl (fun b14 => ?_)
          refine ARun.qv (q_assign rfl) rfl ?_
          refine ARun.nil ?_
          refine ATodo.stop ?_
          exact ImpX.lessP (by exact ⟨rfl, rfl, rfl, rfl, rfl, rfl, True.intro⟩) (.cons (.next .here) (.cons (.next .here) .nil)) (ImpX.here ⟨b14, l13, h, rfl⟩)
        · replace h := iteFb hc h
          refine ATodo.skip ?_
          refine ATodo.stop ?_
          exact ImpX.lessP (by exact ⟨rfl, rfl, rfl, rfl, rfl, rfl, True.intro⟩) (.cons (.next .here) (.cons (.next .here) .nil)) (ImpX.here ⟨b6, l7, h, rfl⟩)
      · rintro σ' ⟨b11, l12, h, rfl⟩
        unfold Q_GapsOf_j1 at h
        refine ATodo.blk ?_
        refine ATodo.region ?_
        refine ARun.qv (q_addw rfl rfl) rfl ?_
        refine ARun.qv (q_move rfl) rfl ?_
        refine ARun.nil ?_
        refine ATodo.stop ?_
        obtain rfl := Option.some.inj h
        refine hJ1 _ _ rfl ?_
        exact ImpX.lessP (by exact ⟨rfl, rfl, rfl, rfl, rfl, rfl, True.intro⟩) (.cons .here (.cons .here .nil)) (ImpX.here ⟨b11, rfl⟩)
    · replace h := iteF hc h
      refine ATodo.exit rfl ?_
      replace h := outL h hA1
      unfold Q_GapsOf_k3 at h
      refine ATodo.seq ?_
      refine ATodo.region ?_
      refine ARun.qv (q_move rfl) rfl ?_
      refine ARun.qv (n_field_ptr rfl rfl) rfl ?_
      refine ARun.qv (q_load_ptr rfl rfl .here rfl) rfl ?_
      refine n_buildSliceL rfl rfl rfl rfl rfl rfl ?_
      obtain ⟨l15, e3, h⟩ := bnd h
      refine t_append (g := I) rfl rfl rfl rfl rfl rfl rfl rfl (.list _) e3 (fun _ => (.next .here)) rfl (fun b16 => ?_)
      refine ARun.qv (q_assign rfl) rfl ?_
      refine ARun.nil ?_
      refine ATodo.seq ?_
      refine ATodo.region ?_
      refine ARun.qv (q_assign rfl) rfl ?_
      refine ARun.nil ?_
      refine ATodo.seq ?_
      refine ATodo.seq ?_
      refine ATodo.region ?_
      refine ARun.qv (q_assign rfl) rfl ?_
      refine ARun.nil ?_
      refine ATodo.block ?_
      refine ATodo.loopI (fun x : (List Window) × Int => Q_GapsOf_b2 p2x0 l15 x.1 x.2) (fun x σ' => ∃ (b20 : Bk), σ' = ⟨68, [(2, I p2x0), (7, .sl 1 b16 0 l15.length), (10, .sl 2 b20 0 x.1.length), (11, I x.2)], [(b16, .arr 1 (l15.map I)), (b20, .arr 2 (x.1.map Window.av))]⟩) h ?_ ?_
      · refine ImpX.arr (s := 10) 2 rfl (fun b23 => ?_)
        exact ImpX.lessP (by exact ⟨rfl, rfl, rfl, rfl, True.intro⟩) (.cons (.next (.next .here)) (.cons .here .nil)) (ImpX.here ⟨b23, rfl⟩)
      · intro x z2 σ' J2 hmk h hJ2 hA2
        obtain ⟨l21, n22⟩ := x
        obtain ⟨b20, rfl⟩ := hmk
        replace h : Q_GapsOf_b2 p2x0 l15 l21 n22 = some z2 := h
        unfold Q_GapsOf_b2 at h
        refine ATodo.seq ?_
        refine ATodo.seq ?_
        refine ATodo.region ?_
        refine ARun.qv (q_move rfl) rfl ?_
        refine ARun.qv (q_move rfl) rfl ?_
        refine ARun.qv (t_len_sl rfl) rfl ?_
        refine ARun.qv (q_lss rfl rfl) rfl ?_
        refine ARun.nil ?_
        refine ATodo.cond_d rfl (fun hc => ?_) (fun hc => ?_)
        · replace h := iteT hc h
          refine ATodo.skip ?_
          refine ATodo.seq ?_
          refine ATodo.block ?_
          refine ATodo.seq ?_
          refine ATodo.regionM (id := 13) (A := [0, 0, 3, 7, 0, 0, 32, 112, 240, 511, 0, 2047]) 12 mixed rfl (by kernel_rfl) (by kernel_rfl) ?_
          refine AM.qv (q_move rfl) rfl ?_
          refine AM.qv (q_move rfl) rfl ?_
          obtain ⟨v24, e4, h⟩ := bnd h
          refine AM.qv (t_index_sl rfl rfl rfl e4) rfl ?_
          refine AM.qv (t_load_aptr (g := I) rfl rfl (.inl .here) e4 rfl) rfl ?_
          refine AM.qv (q_move rfl) rfl ?_
          refine AM.qv (q_move rfl) rfl ?_
          refine AM.qv (q_subw rfl rfl) rfl ?_
          obtain ⟨v25, e5, h⟩ := bnd h
          refine AM.qv (t_index_sl rfl rfl rfl e5) rfl ?_
          refine AM.qv (t_load_aptr (g := I) rfl rfl (.inl .here) e5 rfl) rfl ?_
          refine AM.qv (q_subw rfl rfl) rfl ?_
          refine AM.qv (q_move rfl) rfl ?_
          refine AM.qv (q_gtr rfl rfl) rfl ?_
          refine AM.nil ?_
          refine ARun.nil ?_
          refine ATodo.cut (fun σ' => ∃ (b26 : Bk) (l27 : List Window), Q_GapsOf_j2 n22 l27 = some z2 ∧ σ' = ⟨68, [(2, I p2x0), (7, .sl 1 b16 0 l15.length), (10, .sl 2 b26 0 l27.length), (11, I n22)], [(b16, .arr 1 (l15.map I)), (b26, .arr 2 (l27.map Window.av))]⟩) ?_ ?_
          · refine ATodo.cond_d rfl (fun hc => ?_) (fun hc => ?_)
            · replace h := iteT hc h
              refine ATodo.regionM (id := 14) (A := [0, 0, 0, 4, 14, 30, 0, 0, 192, 448, 1022, 2046, 4095, 8191]) 12 mixed rfl (by kernel_rfl) (by kernel_rfl) ?_
              refine AM.qv (q_move rfl) rfl ?_
              refine AM.qv (q_move rfl) rfl ?_
              refine AM.qv (q_move rfl) rfl ?_
              refine AM.qv (q_subw rfl rfl) rfl ?_
              obtain ⟨v28, e6, h⟩ := bnd h
              refine AM.qv (t_index_sl rfl rfl rfl e6) rfl ?_
              refine AM.qv (t_load_aptr (g := I) rfl rfl (.inl .here) e6 rfl) rfl ?_
              refine AM.qv (q_move rfl) rfl ?_
              refine AM.qv (q_move rfl) rfl ?_
              obtain ⟨v29, e7, h⟩ := bnd h
              refine AM.qv (t_index_sl rfl rfl rfl e7) rfl ?_
              refine AM.qv (t_load_aptr (g := I) rfl rfl (.inl .here) e7 rfl) rfl ?_
              refine AM.qv (n_build rfl rfl rfl rfl rfl) rfl ?_
              refine AM.buildSliceL rfl rfl rfl rfl rfl rfl ?_
              refine AM.nil ?_
              obtain ⟨l30, e8, h⟩ := bnd h
              refine t_append (g := Window.av) rfl rfl rfl rfl rfl rfl rfl rfl (.list _) e8 (fun _ => (.next .here)) rfl (fun b31 => ?_)
              refine ARun.qv (q_assign rfl) rfl ?_
              refine ARun.nil ?_
              refine ATodo.stop ?_
              exact ImpX.lessP (by exact ⟨rfl, rfl, rfl, rfl, True.intro⟩) (.cons .here (.cons .here .nil)) (ImpX.here ⟨b31, l30, h, rfl⟩)
            · replace h := iteF hc h
              refine ATodo.skip ?_
              refine ATodo.stop ?_
              exact ImpX.lessP (by exact ⟨rfl, rfl, rfl, rfl, True.intro⟩) (.cons .here (.cons .here .nil)) (ImpX.here ⟨b20, l21, h, rfl⟩)
          · rintro σ' ⟨b26, l27, h, rfl⟩
            unfold Q_GapsOf_j2 at h
            refine ATodo.blk ?_
            refine ATodo.region ?_
            refine ARun.qv (q_move rfl) rfl ?_
            refine ARun.qv (q_addw rfl rfl) rfl ?_
            refine ARun.qv (q_assign rfl) rfl ?_
            refine ARun.nil ?_
            refine ATodo.stop ?_
            obtain rfl := Option.some.inj h
            refine hJ2 _ _ rfl ?_
            exact ImpX.lessP (by exact ⟨rfl, rfl, rfl, rfl, True.intro⟩) (.cons .here (.cons .here .nil)) (ImpX.here ⟨b26, rfl⟩)
        · replace h := iteF hc h
          refine ATodo.exit rfl ?_
          replace h := outL h hA2
          refine ATodo.seq ?_
          refine ATodo.region ?_
          refine ARun.qv (q_move rfl) rfl ?_
          refine ARun.qv (q_assign rfl) rfl ?_
          refine ARun.nil ?_
          refine ATodo.ret ?_
          obtain rfl := Option.some.inj h
          exact ImpX.here ⟨_, .cons (.tmp _ _ rfl) .nil, _, .cons (.next .here) .nil, ⟨b20, rfl, rfl⟩⟩

set_option maxHeartbeats 4000000 in
theorem slices_Equal_Rise_Rise_c {p0x0 : List Rise} {p1x0 : List Rise} {r : Bool} (h : slices_Equal_Rise_Rise p0x0 p1x0 = some r) : Pu Try.prog 48 [.list 4 (p0x0.map Rise.av), .list 4 (p1x0.map Rise.av)] (.bool r) := by
  unfold slices_Equal_Rise_Rise at h
  refine ACall.bodyN Try.func48 rfl Try.ntmps48 Try.results48 rfl rfl ?_
  refine ATodo.seq ?_
  refine ATodo.region ?_
  refine ARun.qv (q_assign rfl) rfl ?_
  refine ARun.nil ?_
  refine ATodo.seq ?_
  refine ATodo.seq ?_
  refine ATodo.region ?_
  refine ARun.qv (q_move rfl) rfl ?_
  refine ARun.qv (t_len rfl) rfl ?_
  refine ARun.qv (q_move rfl) rfl ?_
  refine ARun.qv (t_len rfl) rfl ?_
  refine ARun.qv (q_neq rfl rfl) rfl ?_
  refine ARun.nil ?_
  refine ATodo.cond_d rfl (fun hc => ?_) (fun hc => ?_)
  · replace h := iteT hc h
    refine ATodo.seq ?_
    refine ATodo.region ?_
    refine ARun.qv (q_assign rfl) rfl ?_
    refine ARun.nil ?_
    refine ATodo.ret ?_
    obtain rfl := Option.some.inj h
    exact ImpX.here ⟨_, .cons (.tmp _ _ rfl) .nil, rfl⟩
  · replace h := iteF hc h
    refine ATodo.skip ?_
    refine ATodo.seq ?_
    refine ATodo.seq ?_
    refine ATodo.region ?_
    refine ARun.qv (q_move rfl) rfl ?_
    refine ARun.qv (t_len rfl) rfl ?_
    refine ARun.qv (q_move rfl) rfl ?_
    refine ARun.nil ?_
    refine ATodo.block ?_
    refine ATodo.loopI (fun x : Int => slices_Equal_Rise_Rise_b1 p0x0 p1x0 x) (fun x σ' => σ' = ⟨26, [(0, .list 4 (p0x0.map Rise.av)), (1, .list 4 (p1x0.map Rise.av)), (12, I (p0x0.length : Int)), (13, I x)], []⟩) h ?_ ?_
    · exact ImpX.lessP (by exact ⟨rfl, rfl, rfl, rfl, True.intro⟩) (.nil) (ImpX.here rfl)
    · intro n2 z1 σ' J1 hmk h hJ1 hA1
      obtain rfl := hmk
      replace h : slices_Equal_Rise_Rise_b1 p0x0 p1x0 n2 = some z1 := h
      unfold slices_Equal_Rise_Rise_b1 at h
      refine ATodo.seq ?_
      refine ATodo.region ?_
      refine ARun.qv (q_lss rfl rfl) rfl ?_
      refine ARun.nil ?_
      refine ATodo.seq ?_
      refine ATodo.cond_d rfl (fun hc => ?_) (fun hc => ?_)
      · replace h := iteT hc h
        refine ATodo.skip ?_
        refine ATodo.seq ?_
        refine ATodo.block ?_
        refine ATodo.seq ?_
        refine ATodo.region ?_
        refine ARun.qv (q_move rfl) rfl ?_
        refine ARun.qv (q_assign rfl) rfl ?_
        refine ARun.nil ?_
        refine ATodo.seq ?_
        refine ATodo.regionM (id := 6) (A := [0, 0, 3, 7, 0, 0, 48, 112, 255]) 9 mixed rfl (by kernel_rfl) (by kernel_rfl) ?_
        refine AM.qv (q_move rfl) rfl ?_
        refine AM.qv (q_move rfl) rfl ?_
        obtain ⟨v3, e1, h⟩ := bnd h
        refine AM.qv (t_index rfl rfl rfl e1 rfl rfl) rfl ?_
        refine AM.qv (q_load_rptr_agg rfl rfl rfl) rfl ?_
        refine AM.qv (q_move rfl) rfl ?_
        refine AM.qv (q_move rfl) rfl ?_
        obtain ⟨v4, e2, h⟩ := bnd h
        refine AM.qv (t_index rfl rfl rfl e2 rfl rfl) rfl ?_
        refine AM.qv (q_load_rptr_agg rfl rfl rfl) rfl ?_
        refine AM.qv (t_tne (g := Rise.av) (X := v3) (Y := v4) rfl rfl rfl rfl rfl) rfl ?_
        refine AM.nil ?_
        refine ARun.nil ?_
        refine ATodo.cond_d rfl (fun hc => ?_) (fun hc => ?_)
        · replace h := iteT hc h
          refine ATodo.seq ?_
          refine ATodo.region ?_
          refine ARun.qv (q_assign rfl) rfl ?_
          refine ARun.nil ?_
          refine ATodo.ret ?_
          replace h := outL h hA1
          obtain rfl := Option.some.inj h
          exact ImpX.here ⟨_, .cons (.tmp _ _ rfl) .nil, rfl⟩
        · replace h := iteF hc h
          refine ATodo.skip ?_
          refine ATodo.blk ?_
          refine ATodo.region ?_
          refine ARun.qv (q_addw rfl rfl) rfl ?_
          refine ARun.qv (q_move rfl) rfl ?_
          refine ARun.nil ?_
          refine ATodo.stop ?_
          obtain rfl := Option.some.inj h
          refine hJ1 _ _ rfl ?_
          exact ImpX.lessP (by exact ⟨rfl, rfl, rfl, rfl, True.intro⟩) (.nil) (ImpX.here rfl)
      · replace h := iteF hc h
        refine ATodo.exit rfl ?_
        replace h := outL h hA1
        refine ATodo.seq ?_
        refine ATodo.region ?_
        refine ARun.qv (q_assign rfl) rfl ?_
        refine ARun.nil ?_
        refine ATodo.ret ?_
        obtain rfl := Option.some.inj h
        exact ImpX.here ⟨_, .cons (.tmp _ _ rfl) .nil, rfl⟩

set_option maxHeartbeats 4000000 in
theorem slices_Equal_Window_Window_c {p0x0 : List Window} {p1x0 : List Window} {r : Bool} (h : slices_Equal_Window_Window p0x0 p1x0 = some r) : Pu Try.prog 49 [.list 2 (p0x0.map Window.av), .list 2 (p1x0.map Window.av)] (.bool r) := by
  unfold slices_Equal_Window_Window at h
  refine ACall.bodyN Try.func49 rfl Try.ntmps49 Try.results49 rfl rfl ?_
  refine ATodo.seq ?_
  refine ATodo.region ?_
  refine ARun.qv (q_assign rfl) rfl ?_
  refine ARun.nil ?_
  refine ATodo.seq ?_
  refine ATodo.seq ?_
  refine ATodo.region ?_
  refine ARun.qv (q_move rfl) rfl ?_
  refine ARun.qv (t_len rfl) rfl ?_
  refine ARun.qv (q_move rfl) rfl ?_
  refine ARun.qv (t_len rfl) rfl ?_
  refine ARun.qv (q_neq rfl rfl) rfl ?_
  refine ARun.nil ?_
  refine ATodo.cond_d rfl (fun hc => ?_) (fun hc => ?_)
  · replace h := iteT hc h
    refine ATodo.seq ?_
    refine ATodo.region ?_
    refine ARun.qv (q_assign rfl) rfl ?_
    refine ARun.nil ?_
    refine ATodo.ret ?_
    obtain rfl := Option.some.inj h
    exact ImpX.here ⟨_, .cons (.tmp _ _ rfl) .nil, rfl⟩
  · replace h := iteF hc h
    refine ATodo.skip ?_
    refine ATodo.seq ?_
    refine ATodo.seq ?_
    refine ATodo.region ?_
    refine ARun.qv (q_move rfl) rfl ?_
    refine ARun.qv (t_len rfl) rfl ?_
    refine ARun.qv (q_move rfl) rfl ?_
    refine ARun.nil ?_
    refine ATodo.block ?_
    refine ATodo.loopI (fun x : Int => slices_Equal_Window_Window_b1 p0x0 p1x0 x) (fun x σ' => σ' = ⟨26, [(0, .list 2 (p0x0.map Window.av)), (1, .list 2 (p1x0.map Window.av)), (12, I (p0x0.length : Int)), (13, I x)], []⟩) h ?_ ?_
    · exact ImpX.lessP (by exact ⟨rfl, rfl, rfl, rfl, True.intro⟩) (.nil) (ImpX.here rfl)
    · intro n2 z1 σ' J1 hmk h hJ1 hA1
      obtain rfl := hmk
      replace h : slices_Equal_Window_Window_b1 p0x0 p1x0 n2 = some z1 := h
      unfold slices_Equal_Window_Window_b1 at h
      refine ATodo.seq ?_
      refine ATodo.region ?_
      refine ARun.qv (q_lss rfl rfl) rfl ?_
      refine ARun.nil ?_
      refine ATodo.seq ?_
      refine ATodo.cond_d rfl (fun hc => ?_) (fun hc => ?_)
      · replace h := iteT hc h
        refine ATodo.skip ?_
        refine ATodo.seq ?_
        refine ATodo.block ?_
        refine ATodo.seq ?_
        refine ATodo.region ?_
        refine ARun.qv (q_move rfl) rfl ?_
        refine ARun.qv (q_assign rfl) rfl ?_
        refine ARun.nil ?_
        refine ATodo.seq ?_
        refine ATodo.regionM (id := 6) (A := [0, 0, 3, 7, 0, 0, 48, 112, 255]) 9 mixed rfl (by kernel_rfl) (by kernel_rfl) ?_
        refine AM.qv (q_move rfl) rfl ?_
        refine AM.qv (q_move rfl) rfl ?_
        obtain ⟨v3, e1, h⟩ := bnd h
        refine AM.qv (t_index rfl rfl rfl e1 rfl rfl) rfl ?_
        refine AM.qv (q_load_rptr_agg rfl rfl rfl) rfl ?_
        refine AM.qv (q_move rfl) rfl ?_
        refine AM.qv (q_move rfl) rfl ?_
        obtain ⟨v4, e2, h⟩ := bnd h
        refine AM.qv (t_index rfl rfl rfl e2 rfl rfl) rfl ?_
        refine AM.qv (q_load_rptr_agg rfl rfl rfl) rfl ?_
        refine AM.qv (t_tne (g := Window.av) (X := v3) (Y := v4) rfl rfl rfl rfl rfl) rfl ?_
        refine AM.nil ?_
        refine ARun.nil ?_
        refine ATodo.cond_d rfl (fun hc => ?_) (fun hc => ?_)
        · replace h := iteT hc h
          refine ATodo.seq ?_
          refine ATodo.region ?_
          refine ARun.qv (q_assign rfl) rfl ?_
          refine ARun.nil ?_
          refine ATodo.ret ?_
          replace h := outL h hA1
          obtain rfl := Option.some.inj h
          exact ImpX.here ⟨_, .cons (.tmp _ _ rfl) .nil, rfl⟩
        · replace h := iteF hc h
          refine ATodo.skip ?_
          refine ATodo.blk ?_
          refine ATodo.region ?_
          refine ARun.qv (q_addw rfl rfl) rfl ?_
          refine ARun.qv (q_move rfl) rfl ?_
          refine ARun.nil ?_
          refine ATodo.stop ?_
          obtain rfl := Option.some.inj h
          refine hJ1 _ _ rfl ?_
          exact ImpX.lessP (by exact ⟨rfl, rfl, rfl, rfl, True.intro⟩) (.nil) (ImpX.here rfl)
      · replace h := iteF hc h
        refine ATodo.exit rfl ?_
        replace h := outL h hA1
        refine ATodo.seq ?_
        refine ATodo.region ?_
        refine ARun.qv (q_assign rfl) rfl ?_
        refine ARun.nil ?_
        refine ATodo.ret ?_
        obtain rfl := Option.some.inj h
        exact ImpX.here ⟨_, .cons (.tmp _ _ rfl) .nil, rfl⟩

set_option maxHeartbeats 4000000 in
theorem series_seven_n0x_c {p1x0 : Int} {r : (List Int)} (h : series_seven_n0x p1x0 = some r) : ACall Try.prog 132 [.nil, .int .u64 p1x0] [] (T1 (fun d_0 => [(d_0, .arr 1 (r.map (AV.int .u8)))]) (fun d_0 => .sl 1 d_0 0 r.length)) := by
  unfold series_seven_n0x at h
  refine ACall.lessH ?_
  refine ACall.bodyN Try.func132 rfl Try.ntmps132 Try.results132 rfl rfl ?_
  refine ATodo.seq ?_
  refine ATodo.region ?_
  refine ARun.qv (q_assign rfl) rfl ?_
  refine ARun.nil ?_
  refine ATodo.seq ?_
  refine ATodo.block ?_
  refine ATodo.loopI (fun x : (List Int) × Int => series_seven_n0x_b1 x.1 x.2) (fun x σ' => ∃ (b4 : Bk), σ' = ⟨21, [(0, .sl 1 b4 0 x.1.length), (1, .int .u64 x.2)], [(b4, .arr 1 (x.1.map (AV.int .u8)))]⟩) h ?_ ?_
  · refine ImpX.arr (s := 0) 1 rfl (fun b7 => ?_)
    exact ImpX.lessP (by exact ⟨rfl, rfl, True.intro⟩) (.cons .here .nil) (ImpX.here ⟨b7, rfl⟩)
  · intro x z1 σ' J1 hmk h hJ1 hA1
    obtain ⟨l5, n6⟩ := x
    obtain ⟨b4, rfl⟩ := hmk
    replace h : series_seven_n0x_b1 l5 n6 = some z1 := h
    unfold series_seven_n0x_b1 at h
    refine ATodo.seq ?_
    refine ATodo.seq ?_
    refine ATodo.region ?_
    refine ARun.qv (q_move rfl) rfl ?_
    refine ARun.qv (q_geq rfl rfl) rfl ?_
    refine ARun.nil ?_
    refine ATodo.cond_d rfl (fun hc => ?_) (fun hc => ?_)
    · replace h := iteT hc h
      refine ATodo.skip ?_
      refine ATodo.block ?_
      refine ATodo.region ?_
      refine ARun.qv (q_move rfl) rfl ?_
      refine ARun.qv (q_move rfl) rfl ?_
      refine ARun.qv (t_and rfl rfl) rfl ?_
      refine ARun.qv (q_conv_int rfl) rfl ?_
      refine ARun.qv (t_or rfl rfl) rfl ?_
      refine n_buildSliceL rfl rfl rfl rfl rfl rfl ?_
      obtain ⟨l8, e1, h⟩ := bnd h
      refine t_append (g := (AV.int .u8)) rfl rfl rfl rfl rfl rfl rfl rfl (.list _) e1 (fun _ => .here) rfl (fun b9 => ?_)
      refine ARun.qv (q_move rfl) rfl ?_
      refine ARun.qv (t_shr rfl rfl (by decide)) rfl ?_
      refine ARun.qv (q_assign rfl) rfl ?_
      refine ARun.qv (q_assign rfl) rfl ?_
      refine ARun.nil ?_
      refine ATodo.blk ?_
      refine ATodo.stop ?_
      obtain rfl := Option.some.inj h
      refine hJ1 _ _ rfl ?_
      exact ImpX.lessP (by exact ⟨rfl, rfl, True.intro⟩) (.cons .here .nil) (ImpX.here ⟨b9, rfl⟩)
    · replace h := iteF hc h
      refine ATodo.exit rfl ?_
      replace h := outL h hA1
      unfold series_seven_n0x_k1 at h
      refine ATodo.seq ?_
      refine ATodo.region ?_
      refine ARun.qv (q_move rfl) rfl ?_
      refine ARun.qv (q_move rfl) rfl ?_
      refine ARun.qv (q_conv_int rfl) rfl ?_
      refine n_buildSliceL rfl rfl rfl rfl rfl rfl ?_
      obtain ⟨l10, e2, h⟩ := bnd h
      refine t_append (g := (AV.int .u8)) rfl rfl rfl rfl rfl rfl rfl rfl (.list _) e2 (fun _ => .here) rfl (fun b11 => ?_)
      refine ARun.qv (q_assign rfl) rfl ?_
      refine ARun.nil ?_
      refine ATodo.ret ?_
      obtain rfl := Option.some.inj h
      exact ImpX.here ⟨_, .cons (.tmp _ _ rfl) .nil, _, .cons .here .nil, ⟨b11, rfl, rfl⟩⟩

set_option maxHeartbeats 4000000 in
theorem series_doubled_c {p0x0 : Int} {r : Int} (h : series_doubled p0x0 = r) : Pu Try.prog 133 [I p0x0] (.int .u64 r) := by
  unfold series_doubled at h
  refine ACall.bodyN Try.func133 rfl Try.ntmps133 Try.results133 rfl rfl ?_
  refine ATodo.seq ?_
  refine ATodo.region ?_
  refine ARun.qv (q_assign rfl) rfl ?_
  refine ARun.nil ?_
  refine ATodo.seq ?_
  refine ATodo.seq ?_
  refine ATodo.region ?_
  refine ARun.qv (q_move rfl) rfl ?_
  refine ARun.qv (q_lss rfl rfl) rfl ?_
  refine ARun.nil ?_
  refine ATodo.cond_d rfl (fun hc => ?_) (fun hc => ?_)
  · replace h := iteT hc h
    refine ATodo.seq ?_
    refine ATodo.region ?_
    refine ARun.qv (q_move rfl) rfl ?_
    refine ARun.qv (q_mulw rfl rfl) rfl ?_
    refine ARun.qv (q_subw rfl rfl) rfl ?_
    refine ARun.qv (q_conv_int rfl) rfl ?_
    refine ARun.qv (q_assign rfl) rfl ?_
    refine ARun.nil ?_
    refine ATodo.ret ?_
    obtain rfl := h
    exact ImpX.here ⟨_, .cons (.tmp _ _ rfl) .nil, rfl⟩
  · replace h := iteF hc h
    refine ATodo.skip ?_
    refine ATodo.seq ?_
    refine ATodo.region ?_
    refine ARun.qv (q_move rfl) rfl ?_
    refine ARun.qv (q_mulw rfl rfl) rfl ?_
    refine ARun.qv (q_conv_int rfl) rfl ?_
    refine ARun.qv (q_assign rfl) rfl ?_
    refine ARun.nil ?_
    refine ATodo.ret ?_
    obtain rfl := h
    exact ImpX.here ⟨_, .cons (.tmp _ _ rfl) .nil, rfl⟩

set_option maxHeartbeats 4000000 in
theorem series_seven_o0x_c {b_0 : Bk} {p0x0 : List Int} {p1x0 : Int} {r : (List Int)} (h : series_seven_o0x p0x0 p1x0 = some r) : ACall Try.prog 132 [.sl 1 b_0 0 p0x0.length, .int .u64 p1x0] [(b_0, .arr 1 (p0x0.map (AV.int .u8)))] (T1 (fun d_0 => [(d_0, .arr 1 (r.map (AV.int .u8)))]) (fun d_0 => .sl 1 d_0 0 r.length)) := by
  unfold series_seven_o0x at h
  refine ACall.lessH ?_
  refine ACall.bodyN Try.func132 rfl Try.ntmps132 Try.results132 rfl rfl ?_
  refine ATodo.seq ?_
  refine ATodo.region ?_
  refine ARun.qv (q_assign rfl) rfl ?_
  refine ARun.nil ?_
  refine ATodo.seq ?_
  refine ATodo.block ?_
  refine ATodo.loopI (fun x : (List Int) × Int => series_seven_o0x_b1 x.1 x.2) (fun x σ' => ∃ (b4 : Bk), σ' = ⟨21, [(0, .sl 1 b4 0 x.1.length), (1, .int .u64 x.2)], [(b4, .arr 1 (x.1.map (AV.int .u8)))]⟩) h ?_ ?_
  · exact ImpX.lessP (by exact ⟨rfl, rfl, True.intro⟩) (.cons .here .nil) (ImpX.here ⟨b_0, rfl⟩)
  · intro x z1 σ' J1 hmk h hJ1 hA1
    obtain ⟨l5, n6⟩ := x
    obtain ⟨b4, rfl⟩ := hmk
    replace h : series_seven_o0x_b1 l5 n6 = some z1 := h
    unfold series_seven_o0x_b1 at h
    refine ATodo.seq ?_
    refine ATodo.seq ?_
    refine ATodo.region ?_
    refine ARun.qv (q_move rfl) rfl ?_
    refine ARun.qv (q_geq rfl rfl) rfl ?_
    refine ARun.nil ?_
    refine ATodo.cond_d rfl (fun hc => ?_) (fun hc => ?_)
    · replace h := iteT hc h
      refine ATodo.skip ?_
      refine ATodo.block ?_
      refine ATodo.region ?_
      refine ARun.qv (q_move rfl) rfl ?_
      refine ARun.qv (q_move rfl) rfl ?_
      refine ARun.qv (t_and rfl rfl) rfl ?_
      refine ARun.qv (q_conv_int rfl) rfl ?_
      refine ARun.qv (t_or rfl rfl) rfl ?_
      refine n_buildSliceL rfl rfl rfl rfl rfl rfl ?_
      obtain ⟨l7, e1, h⟩ := bnd h
      refine t_append (g := (AV.int .u8)) rfl rfl rfl rfl rfl rfl rfl rfl (.list _) e1 (fun _ => .here) rfl (fun b8 => ?_)
      refine ARun.qv (q_move rfl) rfl ?_
      refine ARun.qv (t_shr rfl rfl (by decide)) rfl ?_
      refine ARun.qv (q_assign rfl) rfl ?_
      refine ARun.qv (q_assign rfl) rfl ?_
      refine ARun.nil ?_
      refine ATodo.blk ?_
      refine ATodo.stop ?_
      obtain rfl := Option.some.inj h
      refine hJ1 _ _ rfl ?_
      exact ImpX.lessP (by exact ⟨rfl, rfl, True.intro⟩) (.cons .here .nil) (ImpX.here ⟨b8, rfl⟩)
    · replace h := iteF hc h
      refine ATodo.exit rfl ?_
      replace h := outL h hA1
      unfold series_seven_o0x_k1 at h
      refine ATodo.seq ?_
      refine ATodo.region ?_
      refine ARun.qv (q_move rfl) rfl ?_
      refine ARun.qv (q_move rfl) rfl ?_
      refine ARun.qv (q_conv_int rfl) rfl ?_
      refine n_buildSliceL rfl rfl rfl rfl rfl rfl ?_
      obtain ⟨l9, e2, h⟩ := bnd h
      refine t_append (g := (AV.int .u8)) rfl rfl rfl rfl rfl rfl rfl rfl (.list _) e2 (fun _ => .here) rfl (fun b10 => ?_)
      refine ARun.qv (q_assign rfl) rfl ?_
      refine ARun.nil ?_
      refine ATodo.ret ?_
      obtain rfl := Option.some.inj h
      exact ImpX.here ⟨_, .cons (.tmp _ _ rfl) .nil, _, .cons .here .nil, ⟨b10, rfl, rfl⟩⟩

set_option maxHeartbeats 4000000 in
theorem series_pack_c {p0x0 : List Sample} {r : (List Int)} (h : series_pack p0x0 = some r) : ACall Try.prog 77 [.list 4 (p0x0.map Sample.av)] [] (T1 (fun d_0 => [(d_0, .arr 1 (r.map (AV.int .u8)))]) (fun d_0 => .sl 1 d_0 0 r.length)) := by
  unfold series_pack at h
  refine ACall.lessH ?_
  refine ACall.bodyN Try.func77 rfl Try.ntmps77 Try.results77 rfl rfl ?_
  refine ATodo.seq ?_
  refine ATodo.region ?_
  refine ARun.qv (q_assign rfl) rfl ?_
  refine ARun.nil ?_
  refine ATodo.seq ?_
  refine ATodo.region ?_
  refine ARun.qv (q_move rfl) rfl ?_
  refine ARun.qv (t_len rfl) rfl ?_
  refine ARun.qv (q_conv_int rfl) rfl ?_
  obtain ⟨v1, e1, h⟩ := bnd h
  refine t_call1 rfl (series_seven_n0x_c e1) (CoL.refl _) .nil (fun _ => rfl) rfl (fun b2 => ?_)
  refine ARun.qv (q_assign rfl) rfl ?_
  refine ARun.nil ?_
  refine ATodo.seq ?_
  refine ATodo.region ?_
  refine ARun.qv (q_assign rfl) rfl ?_
  refine ARun.qv (q_assign rfl) rfl ?_
  refine ARun.qv (q_assign rfl) rfl ?_
  refine ARun.nil ?_
  refine ATodo.seq ?_
  refine ATodo.seq ?_
  refine ATodo.region ?_
  refine ARun.qv (q_move rfl) rfl ?_
  refine ARun.qv (t_len rfl) rfl ?_
  refine ARun.qv (q_move rfl) rfl ?_
  refine ARun.nil ?_
  refine ATodo.block ?_
  refine ATodo.loopI (fun x : (List Int) × Int × Int × Int × Int => series_pack_b1 p0x0 x.1 x.2.1 x.2.2.1 x.2.2.2.1 x.2.2.2.2) (fun x σ' => ∃ (b9 : Bk), σ' = ⟨47, [(3, .sl 1 b9 0 x.1.length), (4, I x.2.1), (5, I x.2.2.1), (6, I x.2.2.2.1), (14, .list 4 (p0x0.map Sample.av)), (15, I (p0x0.length : Int)), (16, I x.2.2.2.2)], [(b9, .arr 1 (x.1.map (AV.int .u8)))]⟩) h ?_ ?_
  · exact ImpX.lessP (by exact ⟨rfl, rfl, rfl, rfl, rfl, rfl, rfl, True.intro⟩) (.cons .here .nil) (ImpX.here ⟨b2, rfl⟩)
  · intro x z1 σ' J1 hmk h hJ1 hA1
    obtain ⟨l10, n11, n12, n13, n14⟩ := x
    obtain ⟨b9, rfl⟩ := hmk
    replace h : series_pack_b1 p0x0 l10 n11 n12 n13 n14 = some z1 := h
    unfold series_pack_b1 at h
    refine ATodo.seq ?_
    refine ATodo.region ?_
    refine ARun.qv (q_lss rfl rfl) rfl ?_
    refine ARun.nil ?_
    refine ATodo.seq ?_
    refine ATodo.cond_d rfl (fun hc => ?_) (fun hc => ?_)
    · replace h := iteT hc h
      refine ATodo.skip ?_
      refine ATodo.seq ?_
      refine ATodo.block ?_
      refine ATodo.seq ?_
      refine ATodo.region ?_
      refine ARun.qv (q_move rfl) rfl ?_
      obtain ⟨v15, e2, h⟩ := bnd h
      refine ARun.qv (t_index rfl rfl rfl e2 rfl rfl) rfl ?_
      refine ARun.qv (q_load_rptr_agg rfl rfl rfl) rfl ?_
      refine n_alloc rfl rfl rfl rfl (fun b16 => ?_)
      refine ARun.qv (q_assign rfl) rfl ?_
      refine n_store_ptr rfl rfl rfl rfl .here rfl rfl ?_
      refine ARun.nil ?_
      refine ATodo.seq ?_
      refine ATodo.region ?_
      refine ARun.qv (n_field_ptr rfl rfl) rfl ?_
      refine ARun.qv (q_load_ptr rfl rfl .here rfl) rfl ?_
      refine ARun.qv (q_move rfl) rfl ?_
      refine ARun.qv (q_subw rfl rfl) rfl ?_
      refine ARun.qv (q_assign rfl) rfl ?_
      refine ARun.nil ?_
      refine ATodo.seq ?_
      refine ATodo.region ?_
      refine ARun.qv (q_move rfl) rfl ?_
      refine ARun.qv (q_move rfl) rfl ?_
      refine ARun.qv (q_move rfl) rfl ?_
      refine ARun.qv (q_subw rfl rfl) rfl ?_
      refine r_callp rfl (series_doubled_c rfl) (CoL.refl _) rfl ?_
      obtain ⟨v17, e3, h⟩ := bnd h
      refine t_call1 rfl (series_seven_o0x_c e3) (CoL.refl _) (.cons (.next .here) .nil) (fun _ => rfl) rfl (fun b18 => ?_)
      refine ARun.qv (q_assign rfl) rfl ?_
      refine ARun.nil ?_
      refine ATodo.seq ?_
      refine ATodo.region ?_
      refine ARun.qv (q_move rfl) rfl ?_
      refine ARun.qv (n_field_ptr rfl rfl) rfl ?_
      refine ARun.qv (q_load_ptr rfl rfl (.next .here) rfl) rfl ?_
      refine ARun.qv (q_move rfl) rfl ?_
      refine ARun.qv (q_subw rfl rfl) rfl ?_
      refine r_callp rfl (series_doubled_c rfl) (CoL.refl _) rfl ?_
      obtain ⟨v19, e4, h⟩ := bnd h
      refine t_call1 rfl (series_seven_o0x_c e4) (CoL.refl _) (.cons .here .nil) (fun _ => rfl) rfl (fun b20 => ?_)
      refine ARun.qv (q_assign rfl) rfl ?_
      refine ARun.nil ?_
      refine ATodo.seq ?_
      refine ATodo.seq ?_
      refine ATodo.region ?_
      refine ARun.qv (q_move rfl) rfl ?_
      refine ARun.qv (q_gtr rfl rfl) rfl ?_
      refine ARun.nil ?_
      refine ATodo.cut (fun σ' => ∃ (n21 : Int), series_pack_j1 n14 v15 v19 n21 = some z1 ∧ σ' = ⟨47, [(3, .sl 1 b20 0 v19.length), (5, I n21), (8, .ptr b16 0), (14, .list 4 (p0x0.map Sample.av)), (15, I (p0x0.length : Int)), (16, I n14)], [(b20, .arr 1 (v19.map (AV.int .u8))), (b16, .cells [.str v15.Device, .str v15.Metric, I v15.At, I v15.Value])]⟩) ?_ ?_
      · refine ATodo.cond_d rfl (fun hc => ?_) (fun hc => ?_)
        · replace h := iteT hc h
          refine ATodo.region ?_
          refine ARun.qv (q_move rfl) rfl ?_
          refine ARun.qv (q_assign rfl) rfl ?_
          refine ARun.nil ?_
          refine ATodo.stop ?_
          exact ImpX.lessP (by exact ⟨rfl, rfl, rfl, rfl, rfl, rfl, True.intro⟩) (.cons .here (.cons .here .nil)) (ImpX.here ⟨w64 (v15.At - n11), h, rfl⟩)
        · replace h := iteF hc h
          refine ATodo.skip ?_
          refine ATodo.stop ?_
          exact ImpX.lessP (by exact ⟨rfl, rfl, rfl, rfl, rfl, rfl, True.intro⟩) (.cons .here (.cons .here .nil)) (ImpX.here ⟨n12, h, rfl⟩)
      · rintro σ' ⟨n21, h, rfl⟩
        unfold series_pack_j1 at h
        refine ATodo.regionM (id := 11) (A := [0, 1, 0, 4, 3, 31]) 6 mixed rfl (by kernel_rfl) (by kernel_rfl) ?_
        refine AM.qv (n_field_ptr rfl rfl) rfl ?_
        refine AM.qv (q_load_ptr rfl rfl (.next .here) rfl) rfl ?_
        refine AM.qv (n_field_ptr rfl rfl) rfl ?_
        refine AM.qv (q_load_ptr rfl rfl (.next .here) rfl) rfl ?_
        refine AM.qv (q_assign rfl) rfl ?_
        refine AM.qv (q_assign rfl) rfl ?_
        refine AM.nil ?_
        refine ARun.nil ?_
        refine ATodo.blk ?_
        refine ATodo.region ?_
        refine ARun.qv (q_addw rfl rfl) rfl ?_
        refine ARun.qv (q_move rfl) rfl ?_
        refine ARun.nil ?_
        refine ATodo.stop ?_
        obtain rfl := Option.some.inj h
        refine hJ1 _ _ rfl ?_
        exact ImpX.lessP (by exact ⟨rfl, rfl, rfl, rfl, rfl, rfl, rfl, True.intro⟩) (.cons .here .nil) (ImpX.here ⟨b20, rfl⟩)
    · replace h := iteF hc h
      refine ATodo.exit rfl ?_
      replace h := outL h hA1
      refine ATodo.seq ?_
      refine ATodo.region ?_
      refine ARun.qv (q_move rfl) rfl ?_
      refine ARun.qv (q_assign rfl) rfl ?_
      refine ARun.nil ?_
      refine ATodo.ret ?_
      obtain rfl := Option.some.inj h
      exact ImpX.here ⟨_, .cons (.tmp _ _ rfl) .nil, _, .cons .here .nil, ⟨b9, rfl, rfl⟩⟩

set_option maxHeartbeats 4000000 in
theorem series_Pack_c {p0x0 : List Sample} {r : (List Int) × Int} (h : series_Pack p0x0 = some r) : ACall Try.prog 23 [.list 4 (p0x0.map Sample.av)] [] (T1 (fun d_0 => [(d_0, .arr 1 (r.1.map (AV.int .u8)))]) (fun d_0 => .tup [.sl 1 d_0 0 r.1.length, I r.2])) := by
  unfold series_Pack at h
  refine ACall.lessH ?_
  refine ACall.bodyN Try.func23 rfl Try.ntmps23 Try.results23 rfl rfl ?_
  refine ATodo.seq ?_
  refine ATodo.region ?_
  refine ARun.qv (q_assign rfl) rfl ?_
  refine ARun.qv (q_assign rfl) rfl ?_
  refine ARun.nil ?_
  refine ATodo.seq ?_
  refine ATodo.seq ?_
  refine ATodo.region ?_
  refine ARun.qv (q_move rfl) rfl ?_
  obtain ⟨v1, e1, h⟩ := bnd h
  refine r_callp rfl (series_CheckSeries_c e1) (CoL.refl _) rfl ?_
  refine ARun.qv (q_assign rfl) rfl ?_
  refine ARun.nil ?_
  refine ATodo.seq ?_
  refine ATodo.region ?_
  refine ARun.qv (q_move rfl) rfl ?_
  refine ARun.qv (q_neq rfl rfl) rfl ?_
  refine ARun.nil ?_
  refine ATodo.cond_d rfl (fun hc => ?_) (fun hc => ?_)
  · replace h := iteT hc h
    refine ATodo.seq ?_
    refine ATodo.region ?_
    refine ARun.qv (q_move rfl) rfl ?_
    refine ARun.qv (q_assign rfl) rfl ?_
    refine ARun.qv (q_assign rfl) rfl ?_
    refine ARun.nil ?_
    refine ATodo.ret ?_
    obtain rfl := Option.some.inj h
    refine ImpX.arr (s := 2) 1 rfl (fun b2 => ?_)
    exact ImpX.here ⟨_, .cons (.tmp _ _ rfl) (.cons (.tmp _ _ rfl) .nil), _, .cons .here .nil, ⟨b2, rfl, rfl⟩⟩
  · replace h := iteF hc h
    refine ATodo.skip ?_
    refine ATodo.seq ?_
    refine ATodo.region ?_
    refine ARun.qv (q_move rfl) rfl ?_
    obtain ⟨v3, e2, h⟩ := bnd h
    refine t_call1 rfl (series_pack_c e2) (CoL.refl _) .nil (fun _ => rfl) rfl (fun b4 => ?_)
    refine ARun.qv (q_assign rfl) rfl ?_
    refine ARun.qv (q_assign rfl) rfl ?_
    refine ARun.nil ?_
    refine ATodo.ret ?_
    obtain rfl := Option.some.inj h
    exact ImpX.here ⟨_, .cons (.tmp _ _ rfl) (.cons (.tmp _ _ rfl) .nil), _, .cons .here .nil, ⟨b4, rfl, rfl⟩⟩

set_option maxHeartbeats 4000000 in
theorem slices_Equal_byte_byte_c {p0x0 : List Int} {p1x0 : List Int} {r : Bool} (h : slices_Equal_byte_byte p0x0 p1x0 = some r) : Pu Try.prog 28 [.list 1 (p0x0.map (AV.int .u8)), .list 1 (p1x0.map (AV.int .u8))] (.bool r) := by
  unfold slices_Equal_byte_byte at h
  refine ACall.bodyN Try.func28 rfl Try.ntmps28 Try.results28 rfl rfl ?_
  refine ATodo.seq ?_
  refine ATodo.region ?_
  refine ARun.qv (q_assign rfl) rfl ?_
  refine ARun.nil ?_
  refine ATodo.seq ?_
  refine ATodo.seq ?_
  refine ATodo.region ?_
  refine ARun.qv (q_move rfl) rfl ?_
  refine ARun.qv (t_len rfl) rfl ?_
  refine ARun.qv (q_move rfl) rfl ?_
  refine ARun.qv (t_len rfl) rfl ?_
  refine ARun.qv (q_neq rfl rfl) rfl ?_
  refine ARun.nil ?_
  refine ATodo.cond_d rfl (fun hc => ?_) (fun hc => ?_)
  · replace h := iteT hc h
    refine ATodo.seq ?_
    refine ATodo.region ?_
    refine ARun.qv (q_assign rfl) rfl ?_
    refine ARun.nil ?_
    refine ATodo.ret ?_
    obtain rfl := Option.some.inj h
    exact ImpX.here ⟨_, .cons (.tmp _ _ rfl) .nil, rfl⟩
  · replace h := iteF hc h
    refine ATodo.skip ?_
    refine ATodo.seq ?_
    refine ATodo.seq ?_
    refine ATodo.region ?_
    refine ARun.qv (q_move rfl) rfl ?_
    refine ARun.qv (t_len rfl) rfl ?_
    refine ARun.qv (q_move rfl) rfl ?_
    refine ARun.nil ?_
    refine ATodo.block ?_
    refine ATodo.loopI (fun x : Int => slices_Equal_byte_byte_b1 p0x0 p1x0 x) (fun x σ' => σ' = ⟨26, [(0, .list 1 (p0x0.map (AV.int .u8))), (1, .list 1 (p1x0.map (AV.int .u8))), (12, I (p0x0.length : Int)), (13, I x)], []⟩) h ?_ ?_
    · exact ImpX.lessP (by exact ⟨rfl, rfl, rfl, rfl, True.intro⟩) (.nil) (ImpX.here rfl)
    · intro n2 z1 σ' J1 hmk h hJ1 hA1
      obtain rfl := hmk
      replace h : slices_Equal_byte_byte_b1 p0x0 p1x0 n2 = some z1 := h
      unfold slices_Equal_byte_byte_b1 at h
      refine ATodo.seq ?_
      refine ATodo.region ?_
      refine ARun.qv (q_lss rfl rfl) rfl ?_
      refine ARun.nil ?_
      refine ATodo.seq ?_
      refine ATodo.cond_d rfl (fun hc => ?_) (fun hc => ?_)
      · replace h := iteT hc h
        refine ATodo.skip ?_
        refine ATodo.seq ?_
        refine ATodo.block ?_
        refine ATodo.seq ?_
        refine ATodo.region ?_
        refine ARun.qv (q_move rfl) rfl ?_
        refine ARun.qv (q_assign rfl) rfl ?_
        refine ARun.nil ?_
        refine ATodo.seq ?_
        refine ATodo.regionM (id := 6) (A := [0, 0, 3, 7, 0, 0, 48, 112, 255]) 9 mixed rfl (by kernel_rfl) (by kernel_rfl) ?_
        refine AM.qv (q_move rfl) rfl ?_
        refine AM.qv (q_move rfl) rfl ?_
        obtain ⟨v3, e1, h⟩ := bnd h
        refine AM.qv (t_index rfl rfl rfl e1 rfl rfl) rfl ?_
        refine AM.qv (q_load_rptr rfl rfl rfl) rfl ?_
        refine AM.qv (q_move rfl) rfl ?_
        refine AM.qv (q_move rfl) rfl ?_
        obtain ⟨v4, e2, h⟩ := bnd h
        refine AM.qv (t_index rfl rfl rfl e2 rfl rfl) rfl ?_
        refine AM.qv (q_load_rptr rfl rfl rfl) rfl ?_
        refine AM.qv (q_neq rfl rfl) rfl ?_
        refine AM.nil ?_
        refine ARun.nil ?_
        refine ATodo.cond_d rfl (fun hc => ?_) (fun hc => ?_)
        · replace h := iteT hc h
          refine ATodo.seq ?_
          refine ATodo.region ?_
          refine ARun.qv (q_assign rfl) rfl ?_
          refine ARun.nil ?_
          refine ATodo.ret ?_
          replace h := outL h hA1
          obtain rfl := Option.some.inj h
          exact ImpX.here ⟨_, .cons (.tmp _ _ rfl) .nil, rfl⟩
        · replace h := iteF hc h
          refine ATodo.skip ?_
          refine ATodo.blk ?_
          refine ATodo.region ?_
          refine ARun.qv (q_addw rfl rfl) rfl ?_
          refine ARun.qv (q_move rfl) rfl ?_
          refine ARun.nil ?_
          refine ATodo.stop ?_
          obtain rfl := Option.some.inj h
          refine hJ1 _ _ rfl ?_
          exact ImpX.lessP (by exact ⟨rfl, rfl, rfl, rfl, True.intro⟩) (.nil) (ImpX.here rfl)
      · replace h := iteF hc h
        refine ATodo.exit rfl ?_
        replace h := outL h hA1
        refine ATodo.seq ?_
        refine ATodo.region ?_
        refine ARun.qv (q_assign rfl) rfl ?_
        refine ARun.nil ?_
        refine ATodo.ret ?_
        obtain rfl := Option.some.inj h
        exact ImpX.here ⟨_, .cons (.tmp _ _ rfl) .nil, rfl⟩

set_option maxHeartbeats 4000000 in
theorem L_measured_c {r : Bool} (h : L_measured = some r) : Pu Try.prog 20 [] (.bool r) := by
  unfold L_measured at h
  refine ACall.bodyN Try.func20 rfl Try.ntmps20 Try.results20 rfl rfl ?_
  refine ATodo.seq ?_
  refine ATodo.region ?_
  refine ARun.qv (q_assign rfl) rfl ?_
  refine ARun.nil ?_
  refine ATodo.seq ?_
  refine ATodo.region ?_
  refine ARun.qv (n_build rfl rfl rfl rfl rfl) rfl ?_
  refine n_buildSliceL rfl rfl rfl rfl rfl rfl ?_
  obtain ⟨v1, e1, h⟩ := bnd h
  refine t_call1 rfl (series_Pack_c e1) (CoL.refl _) .nil (fun _ => rfl) rfl (fun b2 => ?_)
  refine ARun.qv (q_move rfl) rfl ?_
  refine ARun.qv (q_extract rfl rfl) rfl ?_
  refine ARun.qv (q_extract rfl rfl) rfl ?_
  refine ARun.qv (q_assign rfl) rfl ?_
  refine ARun.qv (q_assign rfl) rfl ?_
  refine ARun.nil ?_
  refine ATodo.seq ?_
  refine ATodo.cut (fun σ' => ∃ (c3 : Bool), L_measured_j1 c3 = some r ∧ σ' = ⟨16, [(0, .bool c3)], []⟩) ?_ ?_
  · refine ATodo.region ?_
    refine ARun.qv (q_move rfl) rfl ?_
    refine ARun.qv (q_eql rfl rfl) rfl ?_
    refine ARun.qv (q_move rfl) rfl ?_
    refine ARun.guard_dt rfl rfl rfl (fun hc => ?_) (fun hc => ?_)
    · replace h := iteT hc h
      refine ARun.qv (q_move rfl) rfl ?_
      refine ARun.guard_yes rfl rfl rfl ?_
      refine n_buildSliceL rfl rfl rfl rfl rfl rfl ?_
      refine ARun.guard_yes rfl rfl rfl ?_
      obtain ⟨v4, e2, h⟩ := bnd h
      refine r_callpB rfl (slices_Equal_byte_byte_c e2) (.cons (CoB.arrT .here) (.cons (.co (.refl _)) .nil)) rfl rfl ?_
      refine ARun.qv (q_pick_t rfl rfl) rfl ?_
      refine ARun.qv (q_assign rfl) rfl ?_
      refine ARun.nil ?_
      refine ATodo.stop ?_
      exact ImpX.lessP (by exact ⟨rfl, True.intro⟩) (.nil) (ImpX.here ⟨v4, h, rfl⟩)
    · replace h := iteF hc h
      refine ARun.guard_no rfl rfl rfl rfl ?_
      refine ARun.guard_no rfl rfl rfl rfl ?_
      refine ARun.qv (q_pick_f rfl rfl) rfl ?_
      refine ARun.qv (q_assign rfl) rfl ?_
      refine ARun.nil ?_
      refine ATodo.stop ?_
      exact ImpX.lessP (by exact ⟨rfl, True.intro⟩) (.nil) (ImpX.here ⟨false, h, rfl⟩)
  · rintro σ' ⟨c3, h, rfl⟩
    unfold L_measured_j1 at h
    refine ATodo.ret ?_
    obtain rfl := Option.some.inj h
    exact ImpX.here ⟨_, .cons (.tmp _ _ rfl) .nil, rfl⟩

set_option maxHeartbeats 4000000 in
theorem L_CountersRead_c {p0x0 : List Int} {r : Bool} (h : L_CountersRead p0x0 = some r) : Pu Try.prog 6 [.list 1 (p0x0.map I)] (.bool r) := by
  unfold L_CountersRead at h
  refine ACall.bodyN Try.func6 rfl Try.ntmps6 Try.results6 rfl rfl ?_
  refine ATodo.seq ?_
  refine ATodo.region ?_
  refine ARun.qv (q_assign rfl) rfl ?_
  refine ARun.nil ?_
  refine ATodo.seq ?_
  refine ATodo.region ?_
  refine ARun.qv (q_move rfl) rfl ?_
  refine ARun.qv (n_build rfl rfl rfl rfl rfl) rfl ?_
  refine n_box rfl rfl rfl rfl (fun b1 => ?_)
  refine ARun.qv (q_assign rfl) rfl ?_
  refine ARun.nil ?_
  refine ATodo.seq ?_
  refine ATodo.region ?_
  refine ARun.qv (q_move rfl) rfl ?_
  obtain ⟨v2, e1, h⟩ := bnd h
  refine t_call1 rfl (Stream_Series_c e1) (CoL.refl _) (.cons .here .nil) (fun _ => rfl) rfl (fun b3 => ?_)
  refine ARun.qv (q_move rfl) rfl ?_
  obtain ⟨v4, e2, h⟩ := bnd h
  refine t_call0 rfl (Stream_Frame_c e2) (CoL.refl _) (.cons .here .nil) rfl rfl ?_
  refine ARun.qv (q_move rfl) rfl ?_
  refine n_buildSliceL rfl rfl rfl rfl rfl rfl ?_
  obtain ⟨v5, e3, h⟩ := bnd h
  refine t_call0 rfl (Stream_Pick_c e3) (CoL.refl _) (.cons .here .nil) rfl rfl ?_
  refine n_alloc rfl rfl rfl rfl (fun b6 => ?_)
  refine ARun.qv (q_assign rfl) rfl ?_
  refine n_store_ptr rfl rfl rfl rfl .here rfl rfl ?_
  refine ARun.qv (q_assign rfl) rfl ?_
  refine ARun.nil ?_
  refine ATodo.seq ?_
  refine ATodo.region ?_
  refine ARun.qv (q_move rfl) rfl ?_
  obtain ⟨v7, e4, h⟩ := bnd h
  refine ARun.ghost (ImpX.freeze (.next (.next .here)) (ImpX.here ?_))
  refine t_call1 rfl (series_Rises_c e4) (.cons (Co.froT (.next (.next .here))) .nil) .nil (fun _ => rfl) rfl (fun b8 => ?_)
  refine ARun.qv (q_move rfl) rfl ?_
  refine ARun.qv (q_extract rfl rfl) rfl ?_
  refine ARun.qv (q_extract rfl rfl) rfl ?_
  refine ARun.qv (q_assign rfl) rfl ?_
  refine ARun.qv (q_assign rfl) rfl ?_
  refine ARun.nil ?_
  refine ATodo.seq ?_
  refine ATodo.region ?_
  refine ARun.qv (q_move rfl) rfl ?_
  refine ARun.qv (q_load_ptr_all rfl rfl (.next .here) rfl) rfl ?_
  obtain ⟨v9, e5, h⟩ := bnd h
  refine r_callp rfl (series_Grown_c e5) (.cons (Co.froT (.next (.next (.next .here)))) (.cons (.refl _) .nil)) rfl ?_
  refine ARun.qv (q_move rfl) rfl ?_
  refine ARun.qv (q_extract rfl rfl) rfl ?_
  refine ARun.qv (q_extract rfl rfl) rfl ?_
  refine ARun.qv (q_assign rfl) rfl ?_
  refine ARun.qv (q_assign rfl) rfl ?_
  refine ARun.nil ?_
  refine ATodo.seq ?_
  refine ATodo.region ?_
  refine ARun.qv (q_move rfl) rfl ?_
  refine ARun.qv (q_load_ptr_all rfl rfl (.next .here) rfl) rfl ?_
  refine ARun.qv (q_move rfl) rfl ?_
  obtain ⟨v10, e6, h⟩ := bnd h
  refine t_call1 rfl (series_Gaps_c e6) (.cons (Co.froT (.next (.next (.next .here)))) (.cons (.refl _) (.cons (.refl _) .nil))) .nil (fun _ => rfl) rfl (fun b11 => ?_)
  refine ARun.qv (q_move rfl) rfl ?_
  refine ARun.qv (q_extract rfl rfl) rfl ?_
  refine ARun.qv (q_extract rfl rfl) rfl ?_
  refine ARun.qv (q_assign rfl) rfl ?_
  refine ARun.qv (q_assign rfl) rfl ?_
  refine ARun.nil ?_
  refine ATodo.seq ?_
  refine ATodo.region ?_
  refine ARun.qv (q_move rfl) rfl ?_
  obtain ⟨v12, e7, h⟩ := bnd h
  refine r_callp rfl (Q_SeriesFault_c e7) (.cons (Co.froT (.next (.next (.next (.next .here))))) .nil) rfl ?_
  refine ARun.qv (q_assign rfl) rfl ?_
  refine ARun.nil ?_
  refine ATodo.seq ?_
  refine ATodo.region ?_
  refine ARun.qv (q_move rfl) rfl ?_
  refine ARun.qv (q_move rfl) rfl ?_
  obtain ⟨v13, e8, h⟩ := bnd h
  refine r_callp rfl (Q_CounterFault_c e8) (.cons (Co.froT (.next (.next (.next (.next .here))))) .nil) rfl ?_
  refine n_buildSliceL rfl rfl rfl rfl rfl rfl ?_
  obtain ⟨v14, e9, h⟩ := bnd h
  refine r_callp rfl (L_errs_c e9) (CoL.refl _) rfl ?_
  refine ARun.qv (q_assign rfl) rfl ?_
  refine ARun.nil ?_
  refine ATodo.seq ?_
  refine ATodo.region ?_
  refine ARun.qv (q_move rfl) rfl ?_
  refine ARun.qv (q_load_ptr_all rfl rfl (.next (.next .here)) rfl) rfl ?_
  refine r_callp rfl (Q_WindowFault_c rfl) (CoL.refl _) rfl ?_
  refine ARun.qv (q_move rfl) rfl ?_
  obtain ⟨v15, e10, h⟩ := bnd h
  refine r_callp rfl (Q_CounterFault_c e10) (.cons (Co.froT (.next (.next (.next (.next .here))))) .nil) rfl ?_
  refine n_buildSliceL rfl rfl rfl rfl rfl rfl ?_
  obtain ⟨v16, e11, h⟩ := bnd h
  refine r_callp rfl (L_errs_c e11) (CoL.refl _) rfl ?_
  refine ARun.qv (q_assign rfl) rfl ?_
  refine ARun.nil ?_
  refine ATodo.seq ?_
  refine ATodo.cut (fun σ' => ∃ (n17 : Int), L_CountersRead_j1 v2 v4 v5 v7 v9 v10 v14 v16 n17 = some r ∧ σ' = ⟨120, [(4, .sl 4 b3 0 v2.1.length), (5, .ptr b6 0), (6, I v5.1), (7, .sl 4 b8 0 v7.1.length), (8, I v7.2), (9, I v9.1), (10, I v9.2), (11, .sl 2 b11 0 v10.1.length), (12, I v10.2), (14, I v14), (15, I v16), (16, I n17)], [(b3, .fro 4 (v2.1.map Sample.av)), (b6, .cells [I v4.1.From, I v4.1.To]), (b8, .arr 4 (v7.1.map Rise.av)), (b11, .arr 2 (v10.1.map Window.av))]⟩) ?_ ?_
  · refine ATodo.region ?_
    refine ARun.qv (q_move rfl) rfl ?_
    refine ARun.qv (q_load_ptr_all rfl rfl (.next (.next .here)) rfl) rfl ?_
    refine r_callp rfl (Q_WindowFault_c rfl) (CoL.refl _) rfl ?_
    refine ARun.qv (q_move rfl) rfl ?_
    refine ARun.qv (q_lss rfl rfl) rfl ?_
    refine ARun.qv (q_move rfl) rfl ?_
    refine ARun.guard_df rfl rfl rfl (fun hc => ?_) (fun hc => ?_)
    · replace h := iteF hc h
      refine ARun.qv (q_move rfl) rfl ?_
      refine ARun.guard_yes rfl rfl rfl ?_
      refine ARun.qv (q_gtr rfl rfl) rfl ?_
      refine ARun.qv (q_pick_f rfl rfl) rfl ?_
      refine r_callp rfl (L_when_c rfl) (CoL.refl _) rfl ?_
      refine n_buildSliceL rfl rfl rfl rfl rfl rfl ?_
      obtain ⟨v18, e12, h⟩ := bnd h
      refine r_callp rfl (L_errs_c e12) (CoL.refl _) rfl ?_
      refine ARun.qv (q_assign rfl) rfl ?_
      refine ARun.nil ?_
      refine ATodo.stop ?_
      exact ImpX.lessP (by exact ⟨rfl, rfl, rfl, rfl, rfl, rfl, rfl, rfl, rfl, rfl, rfl, rfl, True.intro⟩) (.cons (.next (.next (.next (.next .here)))) (.cons (.next (.next .here)) (.cons (.next .here) (.cons .here .nil)))) (ImpX.here ⟨v18, h, rfl⟩)
    · replace h := iteT hc h
      refine ARun.guard_no rfl rfl rfl rfl ?_
      refine ARun.qv (q_pick_t rfl rfl) rfl ?_
      refine r_callp rfl (L_when_c rfl) (CoL.refl _) rfl ?_
      refine n_buildSliceL rfl rfl rfl rfl rfl rfl ?_
      obtain ⟨v19, e13, h⟩ := bnd h
      refine r_callp rfl (L_errs_c e13) (CoL.refl _) rfl ?_
      refine ARun.qv (q_assign rfl) rfl ?_
      refine ARun.nil ?_
      refine ATodo.stop ?_
      exact ImpX.lessP (by exact ⟨rfl, rfl, rfl, rfl, rfl, rfl, rfl, rfl, rfl, rfl, rfl, rfl, True.intro⟩) (.cons (.next (.next (.next (.next .here)))) (.cons (.next (.next .here)) (.cons (.next .here) (.cons .here .nil)))) (ImpX.here ⟨v19, h, rfl⟩)
  · rintro σ' ⟨n17, h, rfl⟩
    unfold L_CountersRead_j1 at h
    refine ATodo.seq ?_
    refine ATodo.region ?_
    refine ARun.qv (q_assign rfl) rfl ?_
    refine ARun.nil ?_
    refine ATodo.seq ?_
    refine ATodo.region ?_
    refine ARun.qv (q_assign rfl) rfl ?_
    refine ARun.nil ?_
    refine ATodo.seq ?_
    refine ATodo.region ?_
    refine ARun.qv (q_assign rfl) rfl ?_
    refine ARun.nil ?_
    refine ATodo.seq ?_
    refine ATodo.seq ?_
    refine ATodo.region ?_
    refine ARun.qv (q_move rfl) rfl ?_
    refine ARun.qv (q_eql rfl rfl) rfl ?_
    refine ARun.nil ?_
    refine ATodo.cut (fun σ' => ∃ (b20 : Bk) (l21 : List Rise), L_CountersRead_j2 v2 v4 v5 v7 v9 v10 v14 v16 n17 l21 = some r ∧ σ' = ⟨120, [(4, .sl 4 b3 0 v2.1.length), (5, .ptr b6 0), (6, I v5.1), (7, .sl 4 b8 0 v7.1.length), (8, I v7.2), (9, I v9.1), (10, I v9.2), (11, .sl 2 b11 0 v10.1.length), (12, I v10.2), (14, I v14), (15, I v16), (16, I n17), (17, .sl 4 b20 0 l21.length), (18, .nil), (19, I (0 : Int))], [(b3, .fro 4 (v2.1.map Sample.av)), (b6, .cells [I v4.1.From, I v4.1.To]), (b8, .arr 4 (v7.1.map Rise.av)), (b11, .arr 2 (v10.1.map Window.av)), (b20, .arr 4 (l21.map Rise.av))]⟩) ?_ ?_
    · refine ATodo.cond_d rfl (fun hc => ?_) (fun hc => ?_)
      · replace h := iteT hc h
        refine ATodo.region ?_
        refine ARun.qv (q_move rfl) rfl ?_
        obtain ⟨v22, e14, h⟩ := bnd h
        refine t_call1 rfl (Q_RisesOf_c e14) (.cons (Co.froT .here) .nil) .nil (fun _ => rfl) rfl (fun b23 => ?_)
        refine ARun.qv (q_assign rfl) rfl ?_
        refine ARun.nil ?_
        refine ATodo.stop ?_
        exact ImpX.lessP (by exact ⟨rfl, rfl, rfl, rfl, rfl, rfl, rfl, rfl, rfl, rfl, rfl, rfl, rfl, rfl, rfl, True.intro⟩) (.cons (.next .here) (.cons (.next .here) (.cons (.next .here) (.cons (.next .here) (.cons .here .nil))))) (ImpX.here ⟨b23, v22, h, rfl⟩)
      · replace h := iteF hc h
        refine ATodo.skip ?_
        refine ATodo.stop ?_
        refine ImpX.arr (s := 17) 4 rfl (fun b24 => ?_)
        exact ImpX.lessP (by exact ⟨rfl, rfl, rfl, rfl, rfl, rfl, rfl, rfl, rfl, rfl, rfl, rfl, rfl, rfl, rfl, True.intro⟩) (.cons (.next .here) (.cons (.next .here) (.cons (.next .here) (.cons (.next .here) (.cons .here .nil))))) (ImpX.here ⟨b24, [], h, rfl⟩)
    · rintro σ' ⟨b20, l21, h, rfl⟩
      unfold L_CountersRead_j2 at h
      refine ATodo.seq ?_
      refine ATodo.seq ?_
      refine ATodo.region ?_
      refine ARun.qv (q_move rfl) rfl ?_
      refine ARun.qv (q_eql rfl rfl) rfl ?_
      refine ARun.nil ?_
      refine ATodo.cut (fun σ' => ∃ (n25 : Int), L_CountersRead_j3 v2 v4 v5 v7 v9 v10 v14 v16 n17 l21 n25 = some r ∧ σ' = ⟨120, [(4, .sl 4 b3 0 v2.1.length), (5, .ptr b6 0), (6, I v5.1), (7, .sl 4 b8 0 v7.1.length), (8, I v7.2), (9, I v9.1), (10, I v9.2), (11, .sl 2 b11 0 v10.1.length), (12, I v10.2), (14, I v14), (15, I v16), (16, I n17), (17, .sl 4 b20 0 l21.length), (18, .nil), (19, I n25)], [(b3, .fro 4 (v2.1.map Sample.av)), (b6, .cells [I v4.1.From, I v4.1.To]), (b8, .arr 4 (v7.1.map Rise.av)), (b11, .arr 2 (v10.1.map Window.av)), (b20, .arr 4 (l21.map Rise.av))]⟩) ?_ ?_
      · refine ATodo.cond_d rfl (fun hc => ?_) (fun hc => ?_)
        · replace h := iteT hc h
          refine ATodo.region ?_
          refine ARun.qv (q_move rfl) rfl ?_
          refine ARun.qv (q_load_ptr_all rfl rfl (.next .here) rfl) rfl ?_
          obtain ⟨v26, e15, h⟩ := bnd h
          refine r_callp rfl (Q_GrownOf_c e15) (.cons (Co.froT .here) (.cons (.refl _) .nil)) rfl ?_
          refine ARun.qv (q_assign rfl) rfl ?_
          refine ARun.nil ?_
          refine ATodo.stop ?_
          exact ImpX.lessP (by exact ⟨rfl, rfl, rfl, rfl, rfl, rfl, rfl, rfl, rfl, rfl, rfl, rfl, rfl, rfl, rfl, True.intro⟩) (.cons .here (.cons .here (.cons .here (.cons .here (.cons .here .nil))))) (ImpX.here ⟨v26, h, rfl⟩)
        · replace h := iteF hc h
          refine ATodo.skip ?_
          refine ATodo.stop ?_
          exact ImpX.lessP (by exact ⟨rfl, rfl, rfl, rfl, rfl, rfl, rfl, rfl, rfl, rfl, rfl, rfl, rfl, rfl, rfl, True.intro⟩) (.cons .here (.cons .here (.cons .here (.cons .here (.cons .here .nil))))) (ImpX.here ⟨(0 : Int), h, rfl⟩)
      · rintro σ' ⟨n25, h, rfl⟩
        unfold L_CountersRead_j3 at h
        refine ATodo.seq ?_
        refine ATodo.seq ?_
        refine ATodo.region ?_
        refine ARun.qv (q_move rfl) rfl ?_
        refine ARun.qv (q_eql rfl rfl) rfl ?_
        refine ARun.nil ?_
        refine ATodo.cut (fun σ' => ∃ (b27 : Bk) (l28 : List Window), L_CountersRead_j4 v7 v9 v10 v14 v16 n17 l21 n25 l28 = some r ∧ σ' = ⟨120, [(7, .sl 4 b8 0 v7.1.length), (8, I v7.2), (9, I v9.1), (10, I v9.2), (11, .sl 2 b11 0 v10.1.length), (12, I v10.2), (14, I v14), (15, I v16), (16, I n17), (17, .sl 4 b20 0 l21.length), (18, .sl 2 b27 0 l28.length), (19, I n25)], [(b8, .arr 4 (v7.1.map Rise.av)), (b11, .arr 2 (v10.1.map Window.av)), (b20, .arr 4 (l21.map Rise.av)), (b27, .arr 2 (l28.map Window.av))]⟩) ?_ ?_
        · refine ATodo.cond_d rfl (fun hc => ?_) (fun hc => ?_)
          · replace h := iteT hc h
            refine ATodo.region ?_
            refine ARun.qv (q_move rfl) rfl ?_
            refine ARun.qv (q_load_ptr_all rfl rfl (.next .here) rfl) rfl ?_
            refine ARun.qv (q_move rfl) rfl ?_
            obtain ⟨v29, e16, h⟩ := bnd h
            refine t_call1 rfl (Q_GapsOf_c e16) (.cons (Co.froT .here) (.cons (.refl _) (.cons (.refl _) .nil))) .nil (fun _ => rfl) rfl (fun b30 => ?_)
            refine ARun.qv (q_assign rfl) rfl ?_
            refine ARun.nil ?_
            refine ATodo.stop ?_
            exact ImpX.lessP (by exact ⟨rfl, rfl, rfl, rfl, rfl, rfl, rfl, rfl, rfl, rfl, rfl, rfl, True.intro⟩) (.cons (.next (.next (.next .here))) (.cons (.next (.next (.next .here))) (.cons (.next (.next (.next .here))) (.cons .here .nil)))) (ImpX.here ⟨b30, v29, h, rfl⟩)
          · replace h := iteF hc h
            refine ATodo.skip ?_
            refine ATodo.stop ?_
            refine ImpX.arr (s := 18) 2 rfl (fun b31 => ?_)
            exact ImpX.lessP (by exact ⟨rfl, rfl, rfl, rfl, rfl, rfl, rfl, rfl, rfl, rfl, rfl, rfl, True.intro⟩) (.cons (.next (.next (.next .here))) (.cons (.next (.next (.next .here))) (.cons (.next (.next (.next .here))) (.cons .here .nil)))) (ImpX.here ⟨b31, [], h, rfl⟩)
        · rintro σ' ⟨b27, l28, h, rfl⟩
          unfold L_CountersRead_j4 at h
          refine ATodo.seq ?_
          refine ATodo.cut (fun σ' => ∃ (c32 : Bool), L_CountersRead_j5 c32 = some r ∧ σ' = ⟨120, [(2, .bool c32)], []⟩) ?_ ?_
          · refine ATodo.region ?_
            refine ARun.qv (q_move rfl) rfl ?_
            refine ARun.qv (q_move rfl) rfl ?_
            refine ARun.qv (q_eql rfl rfl) rfl ?_
            refine ARun.qv (q_move rfl) rfl ?_
            refine ARun.guard_dt rfl rfl rfl (fun hc => ?_) (fun hc => ?_)
            · replace h := iteT hc h
              refine ARun.qv (q_move rfl) rfl ?_
              refine ARun.guard_yes rfl rfl rfl ?_
              refine ARun.qv (q_move rfl) rfl ?_
              refine ARun.guard_yes rfl rfl rfl ?_
              obtain ⟨v33, e17, h⟩ := bnd h
              refine r_callpB rfl (slices_Equal_Rise_Rise_c e17) (.cons (CoB.arrT .here) (.cons (CoB.arrT (.next (.next .here))) .nil)) rfl rfl ?_
              refine ARun.qv (q_pick_t rfl rfl) rfl ?_
              refine ARun.qv (q_move rfl) rfl ?_
              refine ARun.guard rfl rfl rfl (fun hc => ?_) (fun hc => ?_)
              · replace h := iteT hc h
                refine ARun.qv (q_move rfl) rfl ?_
                refine ARun.guard_yes rfl rfl rfl ?_
                refine ARun.qv (q_move rfl) rfl ?_
                refine ARun.guard_yes rfl rfl rfl ?_
                refine ARun.qv (q_eql rfl rfl) rfl ?_
                refine ARun.qv (q_pick_t rfl rfl) rfl ?_
                refine ARun.qv (q_move rfl) rfl ?_
                refine ARun.guard_dt rfl rfl rfl (fun hc => ?_) (fun hc => ?_)
                · replace h := iteT hc h
                  refine ARun.qv (q_move rfl) rfl ?_
                  refine ARun.guard_yes rfl rfl rfl ?_
                  refine ARun.qv (q_move rfl) rfl ?_
                  refine ARun.guard_yes rfl rfl rfl ?_
                  refine ARun.qv (q_eql rfl rfl) rfl ?_
                  refine ARun.qv (q_pick_t rfl rfl) rfl ?_
                  refine ARun.qv (q_move rfl) rfl ?_
                  refine ARun.guard_dt rfl rfl rfl (fun hc => ?_) (fun hc => ?_)
                  · replace h := iteT hc h
                    refine ARun.qv (q_move rfl) rfl ?_
                    refine ARun.guard_yes rfl rfl rfl ?_
                    refine ARun.qv (q_move rfl) rfl ?_
                    refine ARun.guard_yes rfl rfl rfl ?_
                    refine ARun.qv (q_eql rfl rfl) rfl ?_
                    refine ARun.qv (q_pick_t rfl rfl) rfl ?_
                    refine ARun.qv (q_move rfl) rfl ?_
                    refine ARun.guard_dt rfl rfl rfl (fun hc => ?_) (fun hc => ?_)
                    · replace h := iteT hc h
                      refine ARun.qv (q_move rfl) rfl ?_
                      refine ARun.guard_yes rfl rfl rfl ?_
                      refine ARun.qv (q_move rfl) rfl ?_
                      refine ARun.guard_yes rfl rfl rfl ?_
                      obtain ⟨v34, e18, h⟩ := bnd h
                      refine r_callpB rfl (slices_Equal_Window_Window_c e18) (.cons (CoB.arrT (.next .here)) (.cons (CoB.arrT (.next (.next (.next .here)))) .nil)) rfl rfl ?_
                      refine ARun.qv (q_pick_t rfl rfl) rfl ?_
                      refine ARun.qv (q_move rfl) rfl ?_
                      refine ARun.guard rfl rfl rfl (fun hc => ?_) (fun hc => ?_)
                      · replace h := iteT hc h
                        obtain ⟨v35, e19, h⟩ := bnd h
                        refine r_callp rfl (L_measured_c e19) (CoL.refl _) rfl ?_
                        refine ARun.qv (q_pick_t rfl rfl) rfl ?_
                        refine ARun.qv (q_assign rfl) rfl ?_
                        refine ARun.nil ?_
                        refine ATodo.stop ?_
                        exact ImpX.lessP (by exact ⟨rfl, True.intro⟩) (.nil) (ImpX.here ⟨v35, h, rfl⟩)
                      · replace h := iteFb hc h
                        refine ARun.qv (q_pick_f rfl rfl) rfl ?_
                        refine ARun.qv (q_assign rfl) rfl ?_
                        refine ARun.nil ?_
                        refine ATodo.stop ?_
                        exact ImpX.lessP (by exact ⟨rfl, True.intro⟩) (.nil) (ImpX.here ⟨false, h, rfl⟩)
                    · replace h := iteF hc h
                      refine ARun.guard_no rfl rfl rfl rfl ?_
                      refine ARun.guard_no rfl rfl rfl rfl ?_
                      refine ARun.qv (q_pick_f rfl rfl) rfl ?_
                      refine ARun.qv (q_move rfl) rfl ?_
                      refine ARun.guard_no rfl rfl rfl rfl ?_
                      refine ARun.qv (q_pick_f rfl rfl) rfl ?_
                      refine ARun.qv (q_assign rfl) rfl ?_
                      refine ARun.nil ?_
                      refine ATodo.stop ?_
                      exact ImpX.lessP (by exact ⟨rfl, True.intro⟩) (.nil) (ImpX.here ⟨false, h, rfl⟩)
                  · replace h := iteF hc h
                    refine ARun.guard_no rfl rfl rfl rfl ?_
                    refine ARun.guard_no rfl rfl rfl rfl ?_
                    refine ARun.qv (q_pick_f rfl rfl) rfl ?_
                    refine ARun.qv (q_move rfl) rfl ?_
                    refine ARun.guard_no rfl rfl rfl rfl ?_
                    refine ARun.guard_no rfl rfl rfl rfl ?_
                    refine ARun.guard_no rfl rfl rfl rfl ?_
                    refine ARun.qv (q_pick_f rfl rfl) rfl ?_
                    refine ARun.qv (q_move rfl) rfl ?_
                    refine ARun.guard_no rfl rfl rfl rfl ?_
                    refine ARun.qv (q_pick_f rfl rfl) rfl ?_
                    refine ARun.qv (q_assign rfl) rfl ?_
                    refine ARun.nil ?_
                    refine ATodo.stop ?_
                    exact ImpX.lessP (by exact ⟨rfl, True.intro⟩) (.nil) (ImpX.here ⟨false, h, rfl⟩)
                · replace h := iteF hc h
                  refine ARun.guard_no rfl rfl rfl rfl ?_
                  refine ARun.guard_no rfl rfl rfl rfl ?_
                  refine ARun.qv (q_pick_f rfl rfl) rfl ?_
                  refine ARun.qv (q_move rfl) rfl ?_
                  refine ARun.guard_no rfl rfl rfl rfl ?_
                  refine ARun.guard_no rfl rfl rfl rfl ?_
                  refine ARun.guard_no rfl rfl rfl rfl ?_
                  refine ARun.qv (q_pick_f rfl rfl) rfl ?_
                  refine ARun.qv (q_move rfl) rfl ?_
                  refine ARun.guard_no rfl rfl rfl rfl ?_
                  refine ARun.guard_no rfl rfl rfl rfl ?_
                  refine ARun.guard_no rfl rfl rfl rfl ?_
                  refine ARun.qv (q_pick_f rfl rfl) rfl ?_
                  refine ARun.qv (q_move rfl) rfl ?_
                  refine ARun.guard_no rfl rfl rfl rfl ?_
                  refine ARun.qv (q_pick_f rfl rfl) rfl ?_
                  refine ARun.qv (q_assign rfl) rfl ?_
                  refine ARun.nil ?_
                  refine ATodo.stop ?_
                  exact ImpX.lessP (by exact ⟨rfl, True.intro⟩) (.nil) (ImpX.here ⟨false, h, rfl⟩)
              · replace h := iteFb hc h
                refine ARun.guard_no rfl rfl rfl rfl ?_
                refine ARun.guard_no rfl rfl rfl rfl ?_
                refine ARun.qv (q_pick_f rfl rfl) rfl ?_
                refine ARun.qv (q_move rfl) rfl ?_
                refine ARun.guard_no rfl rfl rfl rfl ?_
                refine ARun.guard_no rfl rfl rfl rfl ?_
                refine ARun.guard_no rfl rfl rfl rfl ?_
                refine ARun.qv (q_pick_f rfl rfl) rfl ?_
                refine ARun.qv (q_move rfl) rfl ?_
                refine ARun.guard_no rfl rfl rfl rfl ?_
                refine ARun.guard_no rfl rfl rfl rfl ?_
                refine ARun.guard_no rfl rfl rfl rfl ?_
                refine ARun.qv (q_pick_f rfl rfl) rfl ?_
                refine ARun.qv (q_move rfl) rfl ?_
                refine ARun.guard_no rfl rfl rfl rfl ?_
                refine ARun.guard_no rfl rfl rfl rfl ?_
                refine ARun.guard_no rfl rfl rfl rfl ?_
                refine ARun.qv (q_pick_f rfl rfl) rfl ?_
                refine ARun.qv (q_move rfl) rfl ?_
                refine ARun.guard_no rfl rfl rfl rfl ?_
                refine ARun.qv (q_pick_f rfl rfl) rfl ?_
                refine ARun.qv (q_assign rfl) rfl ?_
                refine ARun.nil ?_
                refine ATodo.stop ?_
                exact ImpX.lessP (by exact ⟨rfl, True.intro⟩) (.nil) (ImpX.here ⟨false, h, rfl⟩)
            · replace h := iteF hc h
              refine ARun.guard_no rfl rfl rfl rfl ?_
              refine ARun.guard_no rfl rfl rfl rfl ?_
              refine ARun.qv (q_pick_f rfl rfl) rfl ?_
              refine ARun.qv (q_move rfl) rfl ?_
              refine ARun.guard_no rfl rfl rfl rfl ?_
              refine ARun.guard_no rfl rfl rfl rfl ?_
              refine ARun.guard_no rfl rfl rfl rfl ?_
              refine ARun.qv (q_pick_f rfl rfl) rfl ?_
              refine ARun.qv (q_move rfl) rfl ?_
              refine ARun.guard_no rfl rfl rfl rfl ?_
              refine ARun.guard_no rfl rfl rfl rfl ?_
              refine ARun.guard_no rfl rfl rfl rfl ?_
              refine ARun.qv (q_pick_f rfl rfl) rfl ?_
              refine ARun.qv (q_move rfl) rfl ?_
              refine ARun.guard_no rfl rfl rfl rfl ?_
              refine ARun.guard_no rfl rfl rfl rfl ?_
              refine ARun.guard_no rfl rfl rfl rfl ?_
              refine ARun.qv (q_pick_f rfl rfl) rfl ?_
              refine ARun.qv (q_move rfl) rfl ?_
              refine ARun.guard_no rfl rfl rfl rfl ?_
              refine ARun.guard_no rfl rfl rfl rfl ?_
              refine ARun.guard_no rfl rfl rfl rfl ?_
              refine ARun.qv (q_pick_f rfl rfl) rfl ?_
              refine ARun.qv (q_move rfl) rfl ?_
              refine ARun.guard_no rfl rfl rfl rfl ?_
              refine ARun.qv (q_pick_f rfl rfl) rfl ?_
              refine ARun.qv (q_assign rfl) rfl ?_
              refine ARun.nil ?_
              refine ATodo.stop ?_
              exact ImpX.lessP (by exact ⟨rfl, True.intro⟩) (.nil) (ImpX.here ⟨false, h, rfl⟩)
          · rintro σ' ⟨c32, h, rfl⟩
            unfold L_CountersRead_j5 at h
            refine ATodo.ret ?_
            obtain rfl := Option.some.inj h
            exact ImpX.here ⟨_, .cons (.tmp _ _ rfl) .nil, rfl⟩

end Go.Proofs.Ytbcbhhbbejcnnaa
