/- The law FencesSure as a plain statement. No program in sight. -/
import Derived.Test.YtkmbppeelkbjoaaSurPfar
set_option linter.unusedVariables false
set_option linter.unusedSimpArgs false
namespace Go.Beacon
open Go Go.Eng

theorem FencesSure_plain (l : List Int) : L_FencesSure l = some true := by
  unfold L_FencesSure
  refine Gen.use (Fence_ok (k := 100) ⟨by simp, by simp⟩ (by omega)) (fun f s1 hf hs1 => ?_)
  refine Gen.use (Spot_ok (k := 90) (hs1.less (by omega)) (by omega)) (fun p s2 hp hs2 => ?_)
  refine Gen.use (Some_ok (k := 80) (hs2.less (by omega)) (by simp) (by simp) (by omega)) (fun d s3 hd hs3 => ?_)
  refine Gen.use (Odd_ok (k := 70) (hs3.less (by omega)) (by omega) (by omega) (by omega) (by omega)) (fun t s4 ht hs4 => ?_)
  refine Gen.use (Pick_ok (k := 60) (hs4.less (by omega)) (by simp) (by simp) (by omega)) (fun e s5 he hs5 => ?_)
  simp only
  have hE2 : ∀ x y : Int, L_errs [x, y] = some (orL [x, y]) := fun x y => gOr_eq _ (by simp)
  generalize hx : (⟨d, t, p.X, p.Y, e⟩ : Fix) = x
  have hxp : (⟨x.X, x.Y⟩ : Spot) = p := by rw [← hx]
  have hB : ∀ y ∈ [x], FixB y := by
    intro y hy
    rw [List.mem_singleton] at hy
    subst hy
    rw [← hx]; unfold FixB; simp only; omega
  have hFar : ∃ w : Fraction × Int, place_Far f p = some w ∧ w.2 = orL [fenE f, Q_SpotFault p] ∧ (if orL [fenE f, Q_SpotFault p] = 0 then Q_FarOf f.Corners p = some w.1 else w.1 = ⟨0, 0⟩) := by
    unfold place_Far
    rw [spotFault_eq]
    simp only [Option.bind_some]
    by_cases h : orL [fenE f, Q_SpotFault p] = 0
    · obtain ⟨h1, h2⟩ := orL2_zero h
      obtain ⟨g, g1, g2, g3⟩ := farOf_eq (fenE_right h1) (SB_of h2)
      simp only [h, ne_eq, not_true_eq_false, if_false, if_true, g1, g2, Option.bind_some]
      exact ⟨_, rfl, rfl, rfl⟩
    · simp only [h, ne_eq, not_false_eq_true, if_true, if_false]
      exact ⟨_, rfl, rfl, rfl⟩
  have hSur : ∃ w : Int × Int, place_Surely f x = some w ∧ w.2 = orL [fenE f, chkX [x]] ∧ (if orL [fenE f, chkX [x]] = 0 then Q_SurelyOf f x = some w.1 else w.1 = 0) := by
    unfold place_Surely
    rw [CheckFence_eq, CheckFixes_eq]
    simp only [Option.bind_some]
    rw [First_eq _ (by simp)]
    simp only [Option.bind_some]
    by_cases h : orL [fenE f, chkX [x]] = 0
    · obtain ⟨h1, h2⟩ := orL2_zero h
      obtain ⟨v, v1, v2⟩ := surely_eq (fenE_right h1) ((chkX_R h2).1 x (by simp))
      simp only [h, ne_eq, not_true_eq_false, if_false, if_true, v1, v2, Option.bind_some]
      exact ⟨_, rfl, rfl, rfl⟩
    · simp only [h, ne_eq, not_false_eq_true, if_true, if_false]
      exact ⟨_, rfl, rfl, rfl⟩
  obtain ⟨w, w1, w2, w3⟩ := hFar
  obtain ⟨u, u1, u2, u3⟩ := hSur
  simp only [w1, u1, FenceFault_eq, FixesFault_eq [x] hB, hE2, Option.bind_some]
  have j2 : ∀ n18 n19 : Int, w.1 = (⟨n18, n19⟩ : Fraction) → L_FencesSure_j1 (f, s1) (p, s2) (d, s3) (t, s4) (e, s5) w u (orL [fenE f, Q_SpotFault p]) (orL [fenE f, chkX [x]]) n18 n19 = some true := by
    intro n18 n19 hw
    unfold L_FencesSure_j1
    simp only [hx]
    by_cases h : orL [fenE f, chkX [x]] = 0
    · rw [if_pos h] at u3 ⊢
      rw [u3]
      simp only [Option.bind_some]
      unfold L_FencesSure_j2 L_FencesSure_j3
      simp only [w2, u2, hw, placedL_eq, Option.bind_some, if_true]
    · rw [if_neg h] at u3 ⊢
      unfold L_FencesSure_j2 L_FencesSure_j3
      simp only [w2, u2, u3, hw, placedL_eq, Option.bind_some, if_true]
  by_cases h : orL [fenE f, Q_SpotFault p] = 0
  · rw [if_pos h] at w3 ⊢
    rw [w3]
    simp only [Option.bind_some]
    exact j2 _ _ rfl
  · rw [if_neg h] at w3 ⊢
    exact j2 _ _ w3
end Go.Beacon
