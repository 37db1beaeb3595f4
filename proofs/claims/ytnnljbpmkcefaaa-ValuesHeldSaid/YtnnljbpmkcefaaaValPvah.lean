/- The law ValuesHeld, put together. No program in sight. -/
import Derived.Test.YtnnljbpmkcefaaaValPval
set_option linter.unusedVariables false
set_option linter.unusedSimpArgs false
namespace Go.Beacon
open Go Go.Eng

theorem faultS_or (a : List Sample) (w : Window) : faultS a w = orL [chkS a, winF w] := by
  unfold faultS
  by_cases h : chkS a = 0
  · by_cases h2 : winF w = 0 <;> simp [orL, h, h2]
  · simp [orL, h]
theorem winF_zero {w : Window} (h : winF w = 0) : 0 ≤ w.From ∧ w.From ≤ w.To ∧ w.To ≤ 345686400000 := by
  unfold winF winB at h
  split at h
  · rename_i hh; simp at hh; omega
  · omega
def eFr (a : List Sample) (w : Window) : Int := orL [chkS a, winF w]
def eH (a : List Sample) (w : Window) : Int := orL [eFr a w, if 7776000000 < w.To - w.From then 2 else 0]
def eN (a : List Sample) (part : Int) : Int := orL [chkS a, if part < 1 ∨ 1000 < part then 1 else 0, if (a.length : Int) = 0 then 8 else 0]
def eB (a : List Sample) (w : Window) (lo hi : Int) : Int := orL [eFr a w, if hi < lo then 1 else 0]
theorem held_law (a : List Sample) (hl : (a.length : Int) ≤ 20) (w : Window) (hw : WinB w) : ∃ t : Fraction × Int, series_Held a w = some t ∧ (if eH a w = 0 then ∃ u : Fraction × Bool, Q_HeldOf a w = some u ∧ t = (u.1, if u.2 = true then 0 else 8) else t = (⟨0, 0⟩, eH a w)) := by
  obtain ⟨hw1, hw2⟩ := hw
  unfold series_Held eH
  have hf : faultS a w = eFr a w := faultS_or a w
  rw [fault_eq, hf, orL2, w64_in (by omega) (by omega)]
  simp only [Option.bind_some]
  by_cases h1 : eFr a w = 0
  · simp only [h1, ne_eq, not_true_eq_false, if_false]
    by_cases h2 : 7776000000 < w.To - w.From
    · simp only [h2, if_true]
      exact ⟨_, rfl, by simp⟩
    · simp only [h2, if_false, if_true]
      have hz := orL2_zero h1
      have g := chkS_good hz.1
      have wz := winF_zero hz.2
      have hs := spans_eq a w (by omega)
      have hsl := spn_len w a
      have hok := spn_ok w a g.val
      have hdur : durs (spn w a) ≤ 7776000000 := by
        cases a with
        | nil => simp [spn, durs]
        | cons x r =>
          have := spn_dur w x r g.up
          omega
      have hdn := durs_nonneg (spn w a) (fun s hs => (hok s hs).1)
      obtain ⟨⟨r1, r2⟩, r3⟩ := held_loop (spn w a) (by omega) hok (spn w a).length 0 0 0 (by omega) (by omega) (by omega) (by simpa using hdur) (by omega)
      simp only [Int.toNat_zero, List.drop_zero, Int.zero_add] at r1 r2 r3
      rw [hs.1]
      simp only [Option.bind_some]
      unfold Q_HeldOf
      rw [hs.2]
      simp only [Option.bind_some]
      rw [r1, r2]
      unfold series_Held_k1 Q_HeldOf_k1
      by_cases h0 : durs (spn w a) = 0
      · simp only [h0, if_true]
        exact ⟨_, rfl, _, rfl, rfl⟩
      · simp only [h0, if_false]
        obtain ⟨f, f1, f2⟩ := Fraction_eq (n := wsum (spn w a)) (d := durs (spn w a)) (by omega) (by omega)
        rw [f1, f2]
        exact ⟨_, rfl, _, rfl, rfl⟩
  · simp only [h1, ne_eq, not_false_eq_true, if_true, if_false]
    exact ⟨_, rfl, rfl⟩
theorem quant_law (a : List Sample) (hl : (a.length : Int) ≤ 20) (part : Int) : ∃ t : Int × Int, series_Quantile a part = some t ∧ (if eN a part = 0 then Q_QuantileOf a part = some t.1 ∧ t.2 = 0 else t = (0, eN a part)) := by
  unfold series_Quantile eN
  rw [CheckSeries_eq, orL3, orL2]
  simp only [Option.bind_some, Out_or]
  by_cases h1 : chkS a = 0
  · simp only [h1, ne_eq, not_true_eq_false, if_false]
    by_cases h2 : part < 1 ∨ 1000 < part
    · simp only [h2, decide_true, if_true]
      exact ⟨_, rfl, by simp⟩
    · simp only [h2, decide_false, Bool.false_eq_true, if_false, not_true_eq_false]
      by_cases h3 : (a.length : Int) = 0
      · simp only [h3, if_true]
        exact ⟨_, rfl, by simp⟩
      · simp only [h3, if_false, if_true]
        obtain ⟨r1, r2⟩ := vals_loop a part (by omega) a.length [] 0 (by omega) (by omega) (by simp)
        simp only [Int.toNat_zero, List.drop_zero, List.nil_append] at r1 r2
        have hv := vals_len a
        obtain ⟨v, q1, q2⟩ := quant_eq (vals a) part (by omega) (by omega)
        rw [r1, q1]
        refine ⟨_, rfl, ?_, rfl⟩
        unfold Q_QuantileOf
        rw [r2, q2]
  · simp only [h1, ne_eq, not_false_eq_true, if_true, if_false]
    exact ⟨_, rfl, rfl⟩
theorem beyond_law (a : List Sample) (hl : (a.length : Int) ≤ 20) (w : Window) (lo hi : Int) : ∃ t : List Window × Int, series_Beyond a w lo hi = some t ∧ (t.1.length : Int) ≤ 6000 ∧ (if eB a w lo hi = 0 then Q_BeyondOf a w lo hi = some t.1 ∧ t.2 = 0 else t = ([], eB a w lo hi)) := by
  unfold series_Beyond eB
  have hf : faultS a w = eFr a w := faultS_or a w
  rw [fault_eq, hf, orL2]
  simp only [Option.bind_some]
  by_cases h1 : eFr a w = 0
  · simp only [h1, ne_eq, not_true_eq_false, if_false]
    by_cases h2 : hi < lo
    · simp only [h2, if_true]
      exact ⟨_, rfl, by simp, by simp⟩
    · simp only [h2, if_false, if_true]
      have hs := spans_eq a w (by omega)
      have hsl := spn_len w a
      obtain ⟨r1, r2⟩ := beyond_loop (spn w a) lo hi (by omega) (spn w a).length [] 0 (by omega) (by omega) (by simp)
      simp only [Int.toNat_zero, List.drop_zero] at r1 r2
      have hbl := byL_len lo hi (spn w a) []
      simp only [List.length_nil] at hbl
      rw [hs.1]
      simp only [Option.bind_some]
      rw [r1]
      refine ⟨_, rfl, by simp only; omega, ?_, rfl⟩
      unfold Q_BeyondOf
      rw [hs.2]
      simp only [Option.bind_some]
      rw [r2]
  · simp only [h1, ne_eq, not_false_eq_true, if_true, if_false]
    exact ⟨_, rfl, by simp, rfl⟩
theorem fin_ok (t : Fraction × Int) (u : Int × Int) (v : List Window × Int) (h : (v.1.length : Int) ≤ 6000) : L_ValuesHeld_j4 t u v u.2 v.2 t.2 t.1.Num t.1.Den u.1 v.1 = some true := by
  unfold L_ValuesHeld_j4 L_ValuesHeld_j5
  have q2 : slices_Equal_Window_Window v.1 v.1 = some (decide (v.1 = v.1)) := gEqual_eq v.1 v.1 (by omega)
  simp only [q2, if_true, Option.bind_some, decide_true, measured_eq]
theorem ValuesHeld_plain (l : List Int) : L_ValuesHeld l = some true := by
  unfold L_ValuesHeld
  refine Gen.use (Series_ok (k := 70) ⟨by simp, by simp⟩ (by omega) (by omega)) (fun a s1 ha hs1 => ?_)
  refine Gen.use (Frame_ok (k := 9) (hs1.less (by omega)) (by omega)) (fun w s2 hw hs2 => ?_)
  refine Gen.use (Pick_ok (k := 8) (hs2.less (by omega)) (by simp) (by simp) (by omega)) (fun part s3 hpart hs3 => ?_)
  refine Gen.use (Pick_ok (k := 7) (hs3.less (by omega)) (by simp) (by simp) (by omega)) (fun lo s4 hlo hs4 => ?_)
  refine Gen.use (Pick_ok (k := 6) (hs4.less (by omega)) (by simp) (by simp) (by omega)) (fun hi s5 hhi hs5 => ?_)
  have hla : (a.length : Int) ≤ 20 := ha.1
  have hE2 : ∀ x y : Int, L_errs [x, y] = some (orL [x, y]) := fun x y => gOr_eq _ (by simp)
  have hE3 : ∀ x y z : Int, L_errs [x, y, z] = some (orL [x, y, z]) := fun x y z => gOr_eq _ (by simp)
  obtain ⟨t, ht, htq⟩ := held_law a hla w hw
  obtain ⟨u, hu, huq⟩ := quant_law a hla part
  obtain ⟨v, hv, hvl, hvq⟩ := beyond_law a hla w lo hi
  obtain ⟨hw1, hw2⟩ := hw
  simp only [ht, hu, hv, SeriesFault_eq a ha.2, WindowFault_eq, hE2, hE3, Option.bind_some]
  rw [w64_in (x := w.To - w.From) (by omega) (by omega)]
  have eB' : orL [orL [chkS a, winF w], L_when (decide (hi < lo)) 1] = eB a w lo hi := by
    unfold eB eFr L_when
    by_cases h : hi < lo <;> simp [h]
  have eH' : orL [orL [chkS a, winF w], L_when (decide (7776000000 < w.To - w.From)) 2] = eH a w := by
    unfold eH eFr L_when
    by_cases h : 7776000000 < w.To - w.From <;> simp [h]
  have j3 : ∀ (n22 n23 n24 n27 : Int), L_ValuesHeld_j3 (a, s1) (w, s2) (lo, s4) (hi, s5) t u v (eN a part) (eB a w lo hi) n22 n23 n24 n27 = L_ValuesHeld_j4 t u v (eN a part) v.2 n22 n23 n24 n27 v.1 := by
    intro n22 n23 n24 n27
    unfold L_ValuesHeld_j3
    by_cases h : eB a w lo hi = 0
    · rw [if_pos h] at hvq ⊢
      simp only [hvq.1, Option.bind_some]
      rw [h, hvq.2]
    · rw [if_neg h] at hvq ⊢
      rw [hvq]
  have j2 : ∀ (n22 n23 n24 : Int), L_ValuesHeld_j2 (a, s1) (w, s2) (part, s3) (lo, s4) (hi, s5) t u v (eN a part) (eB a w lo hi) n22 n23 n24 = L_ValuesHeld_j4 t u v u.2 v.2 n22 n23 n24 u.1 v.1 := by
    intro n22 n23 n24
    unfold L_ValuesHeld_j2
    by_cases h : eN a part = 0
    · rw [if_pos h] at huq ⊢
      simp only [huq.1, Option.bind_some]
      rw [j3, h, huq.2]
    · rw [if_neg h] at huq ⊢
      rw [j3, huq]
  have j1 : L_ValuesHeld_j1 (a, s1) (w, s2) (part, s3) (lo, s4) (hi, s5) t u v (orL [chkS a, winF w]) (eH a w) (eN a part) = some true := by
    unfold L_ValuesHeld_j1
    simp only [hE2, Option.bind_some]
    rw [eB']
    by_cases h : eH a w = 0
    · rw [if_pos h] at htq ⊢
      obtain ⟨x, hx, rfl⟩ := htq
      rw [hx]
      simp only [Option.bind_some]
      rw [j2]
      have : L_when (!x.2) 8 = if x.2 = true then 0 else 8 := by unfold L_when; cases x.2 <;> rfl
      rw [this]
      exact fin_ok (x.1, if x.2 = true then 0 else 8) u v hvl
    · rw [if_neg h] at htq ⊢
      rw [j2, htq]
      exact fin_ok (⟨0, 0⟩, eH a w) u v hvl
  rw [eH']
  unfold eN at j1
  by_cases c : part < 1
  · rw [if_pos c]
    rw [if_pos (Or.inl c)] at j1
    by_cases c3 : (a.length : Int) = 0
    · rw [if_pos c3] at j1
      simpa only [L_when, c3, decide_true, if_true] using j1
    · rw [if_neg c3] at j1
      simpa only [L_when, c3, decide_false, Bool.false_eq_true, if_true, if_false] using j1
  · rw [if_neg c]
    by_cases c2 : 1000 < part
    · rw [if_pos (Or.inr c2)] at j1
      by_cases c3 : (a.length : Int) = 0
      · rw [if_pos c3] at j1
        simpa only [L_when, c2, c3, decide_true, if_true] using j1
      · rw [if_neg c3] at j1
        simpa only [L_when, c2, c3, decide_true, decide_false, Bool.false_eq_true, if_true, if_false] using j1
    · rw [if_neg (show ¬ (part < 1 ∨ 1000 < part) by omega)] at j1
      by_cases c3 : (a.length : Int) = 0
      · rw [if_pos c3] at j1
        simpa only [L_when, c2, c3, decide_true, decide_false, Bool.false_eq_true, if_true, if_false] using j1
      · rw [if_neg c3] at j1
        simpa only [L_when, c2, c3, decide_false, Bool.false_eq_true, if_false] using j1
end Go.Beacon
