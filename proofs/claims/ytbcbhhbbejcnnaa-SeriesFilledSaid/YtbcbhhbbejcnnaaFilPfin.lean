/- The law SeriesFilled as a plain statement, to its end. No program in sight. -/
import Derived.Test.YtbcbhhbbejcnnaaFilPfil
import Derived.Test.YtbcbhhbbejcnnaaFilPmeas
set_option linter.unusedVariables false
set_option linter.unusedSimpArgs false
namespace Go.Beacon
open Go Go.Eng

def errF (a : List Sample) (w : Window) (step how : Int) : Int := orL [chkS a, winF w, if step < 1 ∨ 345686400000 < step then 1 else 0, if how ≠ 1 ∧ how ≠ 2 then 4 else 0]

theorem j4_true (out : List Sample) (e : Int) (hl : (out.length : Int) ≤ 5000) : L_SeriesFilled_j4 (out, e) e out = some true := by
  unfold L_SeriesFilled_j4 L_SeriesFilled_j5
  have h : slices_Equal_Sample_Sample out out = some (decide (out = out)) := gEqual_eq out out (by omega)
  rw [if_pos rfl, h]
  simp only [Option.bind_some, decide_true, if_true, measured_eq]

theorem Fill_all (a : List Sample) (w : Window) (step how : Int) (hsb : 0 ≤ step ∧ step ≤ 345686400001) (s1 s2 s3 : Stm) : ∃ out e, (out.length : Int) ≤ 5000 ∧ series_Fill a w step how = some (out, e) ∧ L_SeriesFilled_j3 (a, s1) (w, s2) (how, s3) step (out, e) (errF a w step how) = some true := by
  have hfault : series_Fill a w step how = if faultS a w ≠ 0 then some ([], faultS a w) else if base_Out step 1 345686400000 = true then some ([], 1) else series_Fill_j1 a w step how ((decide (how ≠ 1)) && (decide (how ≠ 2))) := by
    unfold series_Fill
    rw [fault_eq]
    rfl
  by_cases h1 : faultS a w = 0
  · rw [if_neg (by simpa using h1), Out_eq] at hfault
    have hc : chkS a = 0 ∧ winF w = 0 := by
      unfold faultS at h1
      split at h1
      · rename_i h; exact absurd h1 h
      · rename_i h; exact ⟨Decidable.not_not.1 h, h1⟩
    have hw : 0 ≤ w.From ∧ w.From ≤ w.To ∧ w.To ≤ 345686400000 := by
      have := hc.2
      unfold winF winB at this
      split at this
      · rename_i h; simpa [and_assoc] using h
      · omega
    by_cases h2 : step < 1 ∨ 345686400000 < step
    · rw [if_pos (by simpa using h2)] at hfault
      refine ⟨[], 1, by simp, hfault, ?_⟩
      have he : errF a w step how = 1 := by unfold errF; rw [hc.1, hc.2, if_pos h2]; simp [orL]
      unfold L_SeriesFilled_j3
      rw [he, if_neg (by omega)]
      exact j4_true [] 1 (by simp)
    · rw [if_neg (by simpa using h2)] at hfault
      by_cases h3 : how ≠ 1 ∧ how ≠ 2
      · have : series_Fill_j1 a w step how ((decide (how ≠ 1)) && (decide (how ≠ 2))) = some ([], 4) := by
          unfold series_Fill_j1
          rw [if_pos (by simpa using h3)]
        rw [this] at hfault
        refine ⟨[], 4, by simp, hfault, ?_⟩
        have he : errF a w step how = 4 := by unfold errF; rw [hc.1, hc.2, if_neg h2, if_pos h3]; simp [orL]
        unfold L_SeriesFilled_j3
        rw [he, if_neg (by omega)]
        exact j4_true [] 4 (by simp)
      · have he : errF a w step how = 0 := by unfold errF; rw [hc.1, hc.2, if_neg h2, if_neg h3]; simp [orL]
        have hst : 1 ≤ step ∧ step ≤ 345686400000 := by omega
        have w1 : w64 (w.To - w.From) = w.To - w.From := by rw [w64_in] <;> omega
        have w2 : w64 (w.To - w.From + step) = w.To - w.From + step := by rw [w64_in] <;> omega
        have w3 : w64 (w.To - w.From + step - 1) = w.To - w.From + step - 1 := by rw [w64_in] <;> omega
        have hq : quo (w.To - w.From + step - 1) step = some ((w.To - w.From + step - 1) / step) := quo_pos (by omega) (by omega) (by omega)
        unfold series_Fill_j1 at hfault
        rw [if_neg (by simpa using h3), w1, w2, w3, hq] at hfault
        simp only [Option.bind_some] at hfault
        have hj : ∀ out e, L_SeriesFilled_j3 (a, s1) (w, s2) (how, s3) step (out, e) 0 = (if 5000 < (w.To - w.From + step - 1) / step then some ([], 2) else Q_FillOf_l1 a w step how [] w.From).bind fun v22 => L_SeriesFilled_j4 (out, e) v22.2 v22.1 := by
          intro out e
          unfold L_SeriesFilled_j3
          rw [if_pos rfl]
          unfold Q_FillOf
          simp only
          rw [w1, w2, w3, hq]
          rfl
        rw [he]
        by_cases h4 : 5000 < (w.To - w.From + step - 1) / step
        · rw [if_pos h4] at hfault
          refine ⟨[], 2, by simp, hfault, ?_⟩
          rw [hj, if_pos h4]
          exact j4_true [] 2 (by simp)
        · rw [if_neg h4] at hfault
          have hN : 0 ≤ (w.To - w.From + step - 1) / step := Int.ediv_nonneg (by omega) (by omega)
          have hNm : w.To ≤ w.From + ((w.To - w.From + step - 1) / step) * step := by
            have := Int.lt_ediv_add_one_mul_self (w.To - w.From + step - 1) (show 0 < step by omega)
            rw [Int.add_mul] at this
            omega
          have g := chkS_good hc.1
          obtain ⟨res, hres, r1, r2⟩ := Fill_same (how := how) g hw.1 hw.2.1 hw.2.2 hst.1 hst.2 ((w.To - w.From + step - 1) / step).toNat [] (-1) w.From (by omega) (by omega) (by rw [Int.toNat_of_nonneg hN]; exact hNm) (by simp; omega) (by omega) (by omega) (fun j y hj hy => by have := (idx_some hy).1; omega)
          rw [r1] at hfault
          refine ⟨res, 0, hres, hfault, ?_⟩
          rw [hj, if_neg h4, r2]
          exact j4_true res 0 hres
  · rw [if_pos h1] at hfault
    refine ⟨[], faultS a w, by simp, hfault, ?_⟩
    have he : errF a w step how = faultS a w := by
      unfold errF faultS at *
      by_cases hc : chkS a = 0
      · simp only [hc, ne_eq, not_true_eq_false, if_false] at h1 ⊢
        simp [orL, h1]
      · simp [orL, hc]
    unfold L_SeriesFilled_j3
    rw [he, if_neg h1]
    exact j4_true [] _ (by simp)

theorem law_j2 (a : List Sample) (ha : ∀ x ∈ a, SampB x) (w : Window) (step how : Int) (hsb : 0 ≤ step ∧ step ≤ 345686400001) (s1 s2 s3 : Stm) : L_SeriesFilled_j2 (a, s1) (w, s2) (how, s3) step = some true := by
  obtain ⟨out, e, hl, h1, h2⟩ := Fill_all a w step how hsb s1 s2 s3
  unfold L_SeriesFilled_j2
  simp only [h1, Option.bind_some, SeriesFault_eq a ha, WindowFault_eq]
  have hE : ∀ x y : Int, L_errs [chkS a, winF w, x, y] = some (orL [chkS a, winF w, x, y]) := fun x y => gOr_eq _ (by simp)
  rw [← h2]
  unfold errF
  by_cases c1 : step < 1 <;> by_cases c2 : how ≠ 1
  · rw [if_pos c1, if_pos c2, hE]
    simp only [Option.bind_some, L_when]
    by_cases c3 : how ≠ 2 <;> simp [c1, c2, c3]
  · rw [if_pos c1, if_neg c2, hE]
    simp only [Option.bind_some, L_when]
    rw [if_neg (fun h : how ≠ 1 ∧ how ≠ 2 => c2 h.1)]
    simp [c1]
  · rw [if_neg c1, if_pos c2, hE]
    simp only [Option.bind_some, L_when]
    by_cases c3 : how ≠ 2 <;> by_cases c4 : 345686400000 < step <;> simp [c1, c2, c3, c4]
  · rw [if_neg c1, if_neg c2, hE]
    simp only [Option.bind_some, L_when]
    rw [if_neg (fun h : how ≠ 1 ∧ how ≠ 2 => c2 h.1)]
    by_cases c4 : 345686400000 < step <;> simp [c1, c4]

theorem SeriesFilled_plain (l : List Int) : L_SeriesFilled l = some true := by
  unfold L_SeriesFilled
  refine Gen.use (Series_ok (k := 20) ⟨by simp, by simp⟩ (by omega) (by omega)) (fun a s1 ha hs1 => ?_)
  refine Gen.use (Frame_ok (k := 9) (hs1.less (by omega)) (by omega)) (fun w s2 hw hs2 => ?_)
  refine Gen.use (Pick_ok (k := 8) (hs2.less (by omega)) (by simp) (by simp) (by omega)) (fun step s3 hstep hs3 => ?_)
  refine Gen.use (Pick_ok (k := 7) (hs3.less (by omega)) (by simp) (by simp) (by omega)) (fun how s4 hhow hs4 => ?_)
  refine Gen.use (Flip_ok (k := 6) (hs4.less (by omega)) (by omega) (by omega) (by omega)) (fun c s5 hc hs5 => ?_)
  have hst := pick_le (lo := 0) (hi := 345686400001) hstep (by decide)
  unfold L_SeriesFilled_j1
  split
  · exact law_j2 a ha.2 w _ how (by simp only; omega) s1 s2 s4
  · exact law_j2 a ha.2 w _ how hst s1 s2 s4
end Go.Beacon
