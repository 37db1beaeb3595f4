/- SidesJoined: the law. No program in sight. -/
import Derived.Test.YtnahbimoaekobaaGreatDoorSidPthr
import Derived.Test.YtnahbimoaekobaaGreatDoorSidPchl
set_option linter.unusedVariables false
set_option linter.unusedSimpArgs false
namespace Go.Beacon
open Go Go.Eng

theorem eqCl_self (l : List Clash) (h : l.length ≤ 100000) : slices_Equal_Clash_Clash l l = some true := by
  rw [show slices_Equal_Clash_Clash l l = some (decide (l = l)) from gEqual_eq _ _ (by omega)]; simp
theorem errs3 (x y z : Int) : L_errs [x, y, z] = some (orL [x, y, z]) := gOr_eq _ (by simp)
theorem sj4 (x : List PropS × List Clash × Int) (h1 : x.1.length ≤ 1000) (h2 : x.2.1.length ≤ 1000) : L_SidesJoined_j4 x x.2.2 x.1 x.2.1 = some true := by
  unfold L_SidesJoined_j4
  rw [if_pos rfl, eqP_self x.1 (by omega)]
  simp only [Option.bind_some, if_true]
  rw [eqCl_self x.2.1 (by omega)]
  simp only [Option.bind_some, if_true]
  rw [twinned_eq]
  rfl
theorem sj3 (v2 : List PropS × Stm) (a b : List PropS) (ho : PS v2.1) (ha : PS a) (hb : PS b) : L_SidesJoined_j3 v2 a b = some true := by
  obtain ⟨r1, a1, a2, a3⟩ := CheckProps_eq v2.1 ho.1
  obtain ⟨r2, b1, b2, b3⟩ := CheckProps_eq a ha.1
  obtain ⟨r3, c1, c2, c3⟩ := CheckProps_eq b hb.1
  obtain ⟨x, x1, x2, x3, x4⟩ := Three_eq v2.1 a b ho ha hb a1 b1 c1 (fun h => (a3 h).1) (fun h => (b3 h).1) (fun h => (c3 h).1)
  unfold L_SidesJoined_j3
  rw [x1, a2, b2, c2]
  simp only [Option.bind_some]
  rw [errs3]
  simp only [Option.bind_some]
  rcases x4 with ⟨h, rfl⟩ | ⟨h, hq⟩
  · rw [if_neg h]
    exact sj4 ([], [], _) x2 x3
  · rw [if_pos h, hq]
    simp only [Option.bind_some]
    exact sj4 x x2 x3
theorem PF.ps {l : List PropS} (h : PF 6 l) : PS l := ⟨h.pb (by omega), by have := h.1; omega⟩
theorem SidesJoined_plain (L : List Int) : L_SidesJoined L = some true := by
  have key : Ok (L_SidesJoined L) (fun r => r = true) := by
    unfold L_SidesJoined
    refine Ok.gen (Props_k (K := 1000) ⟨by simp, by simp⟩ (by omega)) (fun o s1 ho q1 => ?_)
    refine Ok.gen (Props_k q1 (by omega)) (fun b s2 hb q2 => ?_)
    refine Ok.gen (Changes_k q2 (by omega) ho) (fun c s3 hc q3 => ?_)
    dsimp only
    refine Ok.bind (ApplyOf_ok o c ho hc) (fun x hx => ?_)
    have j2 : ∀ (v4 : List Change × Stm) (a : List PropS), SOk v4.2 10 → PS a → Ok (L_SidesJoined_j2 (o, s1) (b, s2) v4 a) (fun r => r = true) := by
      intro v4 a q ha
      unfold L_SidesJoined_j2
      refine Ok.gen (Flip_k q (by omega) (by omega) (by omega)) (fun f s5 _ q5 => ?_)
      dsimp only
      split
      · exact ⟨true, sj3 (o, s1) a o ho.ps ha ho.ps, rfl⟩
      · exact ⟨true, sj3 (o, s1) a b ho.ps ha hb.ps, rfl⟩
    have j1 : ∀ t, Ok (L_SidesJoined_j1 (o, s1) (b, s2) (c, s3) x t) (fun r => r = true) := by
      intro t
      unfold L_SidesJoined_j1
      split
      · exact j2 _ _ (q3.less (by omega)) hx
      · exact j2 _ _ (q3.less (by omega)) ho.ps
    split
    · obtain ⟨r1, _, a2, _⟩ := CheckProps_eq o (ho.pb (by omega))
      rw [a2]
      exact j1 _
    · exact j1 _
  obtain ⟨r, h1, rfl⟩ := key
  exact h1
end Go.Beacon
