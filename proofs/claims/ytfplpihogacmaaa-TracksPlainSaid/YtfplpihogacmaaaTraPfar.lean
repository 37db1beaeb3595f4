/- How far a spot is from a fence; where a device surely was. No program in sight. -/
import Derived.Test.YtfplpihogacmaaaTraPfng
import Derived.Test.YtfplpihogacmaaaTraPfrc
import Derived.Test.YtfplpihogacmaaaTraPfxc
set_option linter.unusedVariables false
set_option linter.unusedSimpArgs false
namespace Go.Beacon
open Go Go.Eng

theorem sq_nn (x : Int) : 0 ≤ x * x := by
  rcases Int.le_total 0 x with h | h
  · exact Int.mul_nonneg h h
  · have := Int.mul_nonneg (show 0 ≤ -x by omega) (show 0 ≤ -x by omega)
    rw [Int.neg_mul_neg] at this; exact this
def sqG (a b : Spot) : Int := (a.X - b.X) * (a.X - b.X) + (a.Y - b.Y) * (a.Y - b.Y)
theorem sqG_bd {a b : Spot} (ha : SB a) (hb : SB b) : 0 ≤ sqG a b ∧ sqG a b ≤ 800000000 := by
  unfold SB at ha hb
  have h1 := sq_nn (a.X - b.X)
  have h2 := sq_nn (a.Y - b.Y)
  have := (dot_bd (u := a.X - b.X) (v := a.X - b.X) (p := a.Y - b.Y) (q := a.Y - b.Y) (by omega) (by omega) (by omega) (by omega)).2
  unfold sqG; omega
theorem square_eq {a b : Spot} (ha : SB a) (hb : SB b) : place_square a b = sqG a b := by
  unfold SB at ha hb
  unfold place_square
  rw [sub_w ha.1 hb.1, sub_w ha.2 hb.2]
  exact (dot_bd (by omega) (by omega) (by omega) (by omega)).1
theorem sqG_comm (a b : Spot) : sqG a b = sqG b a := by unfold sqG; grind
theorem Qsq_eq {a b : Spot} (ha : SB a) (hb : SB b) : Q_dot (Q_minus a b) (Q_minus a b) = sqG a b := dot_eq ha hb ha hb
theorem far_eq {a b s : Spot} (ha : SB a) (hb : SB b) (hs : SB s) : ∃ f, place_far a b s = some f ∧ Q_farWay a b s = some f ∧ FrB f := by
  have ha' := ha; have hb' := hb; have hs' := hs
  unfold SB at ha' hb' hs'
  have e1 : w64 (w64 (w64 (s.X - a.X) * w64 (b.X - a.X)) + w64 (w64 (s.Y - a.Y) * w64 (b.Y - a.Y))) = (s.X - a.X) * (b.X - a.X) + (s.Y - a.Y) * (b.Y - a.Y) := by
    rw [sub_w hs'.1 ha'.1, sub_w hb'.1 ha'.1, sub_w hs'.2 ha'.2, sub_w hb'.2 ha'.2]
    exact (dot_bd (by omega) (by omega) (by omega) (by omega)).1
  unfold place_far Q_farWay
  rw [e1, dot_eq hs ha hb ha, dot_eq hs hb hb ha, Qsq_eq hs ha, Qsq_eq hs hb, Qsq_eq hb ha, square_eq ha hs, square_eq hb hs, square_eq ha hb, side_eq ha hb hs, cross_eq ha hb hs, sqG_comm s a, sqG_comm s b, sqG_comm b a]
  have b1 := sqG_bd ha hs
  have b2 := sqG_bd hb hs
  have b3 := sqG_bd ha hb
  have hd := sd_bd ha hb hs
  have hm := mul_bd (a := sd (GS a) (GS b) (GS s)) (b := sd (GS a) (GS b) (GS s)) (A := 800000000) (B := 800000000) (by omega) (by omega) (by omega) (by omega)
  have hnn := sq_nn (sd (GS a) (GS b) (GS s))
  have hk : (s.X - b.X) * (b.X - a.X) + (s.Y - b.Y) * (b.Y - a.Y) = (s.X - a.X) * (b.X - a.X) + (s.Y - a.Y) * (b.Y - a.Y) - sqG a b := by unfold sqG; grind
  rw [hk]
  generalize (s.X - a.X) * (b.X - a.X) + (s.Y - a.Y) * (b.Y - a.Y) = al at *
  by_cases c1 : al ≤ 0
  · rw [if_pos c1, if_pos c1]
    exact ⟨_, rfl, rfl, ⟨by simp only; omega, by simp only; omega⟩, by simp only; omega, by simp only; omega⟩
  · rw [if_neg c1, if_neg c1]
    by_cases c2 : sqG a b ≤ al
    · rw [if_pos c2, if_pos (by omega)]
      exact ⟨_, rfl, rfl, ⟨by simp only; omega, by simp only; omega⟩, by simp only; omega, by simp only; omega⟩
    · rw [if_neg c2, if_neg (by omega), w64_in (x := sd (GS a) (GS b) (GS s) * sd (GS a) (GS b) (GS s)) (by omega) (by omega)]
      obtain ⟨f, f1, f2, f3⟩ := Fraction_B (n := sd (GS a) (GS b) (GS s) * sd (GS a) (GS b) (GS s)) (d := sqG a b) (by omega) (by omega)
      rw [f1, f2]
      exact ⟨f, rfl, rfl, f3⟩
theorem ltF_irr (f : Fraction) : ltF f f = false := by unfold ltF; simp
def FixR (x : Fix) : Prop := SB (⟨x.X, x.Y⟩ : Spot) ∧ (0 ≤ x.Error ∧ x.Error ≤ 10000) ∧ (0 ≤ x.At ∧ x.At ≤ 345686399999)
theorem fixR_of {x : Fix} {p : Option Fix} (h : fixStep p x = 0) : FixR x := by
  unfold fixStep at h
  by_cases hk : keyB x.Device = false
  · rw [if_pos hk] at h; omega
  · rw [if_neg hk] at h
    by_cases hb : fbad x = true
    · rw [if_pos hb] at h; omega
    · unfold fbad spotX at hb
      simp only [Bool.not_eq_true, Bool.or_eq_false_iff, Bool.not_eq_false', Bool.and_eq_true, decide_eq_true_eq, decide_eq_false_iff_not] at hb
      obtain ⟨h1, ⟨h2, h3⟩, h4⟩ := hb
      exact ⟨⟨h2, h3⟩, by omega, h1⟩
theorem scan_R : ∀ {xs : List Fix} {p : Option Fix}, scanC fixStep p xs = 0 → ∀ x ∈ xs, FixR x
  | [], _, _, x, hx => by simp at hx
  | s :: r, p, h, x, hx => by
    simp only [scanC] at h
    by_cases h0 : fixStep p s = 0
    · rw [if_pos h0] at h
      rcases List.mem_cons.1 hx with rfl | hx
      · exact fixR_of h0
      · exact scan_R h x hx
    · rw [if_neg h0] at h; exact absurd h h0
theorem chkX_R {xs : List Fix} (h : chkX xs = 0) : (∀ x ∈ xs, FixR x) ∧ xs.length ≤ 2000 := by
  unfold chkX at h
  split at h
  · omega
  · exact ⟨scan_R h, by omega⟩
end Go.Beacon
