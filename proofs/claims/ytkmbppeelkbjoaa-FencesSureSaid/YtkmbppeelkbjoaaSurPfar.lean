/- How far a spot is from a fence; where a device surely was. No program in sight. -/
import Derived.Test.YtkmbppeelkbjoaaSurPfng
import Derived.Test.YtkmbppeelkbjoaaSurPfrc
import Derived.Test.YtkmbppeelkbjoaaSurPfxc
set_option linter.unusedVariables false
set_option linter.unusedSimpArgs false
namespace Go.Beacon
open Go Go.Eng

theorem sq_nn (x : Int) : 0 ≤ x * x := by
  rcases Int.le_total 0 x with h | h
  · exact Int.mul_nonneg h h
  · have := Int.mul_nonneg (show 0 ≤ -x by omega) (show 0 ≤ -x by omega)
    rw [Int.neg_mul_neg] at this; exact this
def sqG (a b : Spot) : Int := (a.X - b.X) * (a.X - b.X) + (a.Y - b.Y) * (a.Y - b.Y)
theorem sqG_bd {a b : Spot} (ha : SB a) (hb : SB b) : 0 ≤ sqG a b ∧ sqG a b ≤ 800000000 := by
  unfold SB at ha hb
  have h1 := sq_nn (a.X - b.X)
  have h2 := sq_nn (a.Y - b.Y)
  have := (dot_bd (u := a.X - b.X) (v := a.X - b.X) (p := a.Y - b.Y) (q := a.Y - b.Y) (by omega) (by omega) (by omega) (by omega)).2
  unfold sqG; omega
theorem square_eq {a b : Spot} (ha : SB a) (hb : SB b) : place_square a b = sqG a b := by
  unfold SB at ha hb
  unfold place_square
  rw [sub_w ha.1 hb.1, sub_w ha.2 hb.2]
  exact (dot_bd (by omega) (by omega) (by omega) (by omega)).1
theorem sqG_comm (a b : Spot) : sqG a b = sqG b a := by unfold sqG; grind
theorem Qsq_eq {a b : Spot} (ha : SB a) (hb : SB b) : Q_dot (Q_minus a b) (Q_minus a b) = sqG a b := dot_eq ha hb ha hb
theorem far_eq {a b s : Spot} (ha : SB a) (hb : SB b) (hs : SB s) : ∃ f, place_far a b s = some f ∧ Q_farWay a b s = some f ∧ FrB f := by
  have ha' := ha; have hb' := hb; have hs' := hs
  unfold SB at ha' hb' hs'
  have e1 : w64 (w64 (w64 (s.X - a.X) * w64 (b.X - a.X)) + w64 (w64 (s.Y - a.Y) * w64 (b.Y - a.Y))) = (s.X - a.X) * (b.X - a.X) + (s.Y - a.Y) * (b.Y - a.Y) := by
    rw [sub_w hs'.1 ha'.1, sub_w hb'.1 ha'.1, sub_w hs'.2 ha'.2, sub_w hb'.2 ha'.2]
    exact (dot_bd (by omega) (by omega) (by omega) (by omega)).1
  unfold place_far Q_farWay
  rw [e1, dot_eq hs ha hb ha, dot_eq hs hb hb ha, Qsq_eq hs ha, Qsq_eq hs hb, Qsq_eq hb ha, square_eq ha hs, square_eq hb hs, square_eq ha hb, side_eq ha hb hs, cross_eq ha hb hs, sqG_comm s a, sqG_comm s b, sqG_comm b a]
  have b1 := sqG_bd ha hs
  have b2 := sqG_bd hb hs
  have b3 := sqG_bd ha hb
  have hd := sd_bd ha hb hs
  have hm := mul_bd (a := sd (GS a) (GS b) (GS s)) (b := sd (GS a) (GS b) (GS s)) (A := 800000000) (B := 800000000) (by omega) (by omega) (by omega) (by omega)
  have hnn := sq_nn (sd (GS a) (GS b) (GS s))
  have hk : (s.X - b.X) * (b.X - a.X) + (s.Y - b.Y) * (b.Y - a.Y) = (s.X - a.X) * (b.X - a.X) + (s.Y - a.Y) * (b.Y - a.Y) - sqG a b := by unfold sqG; grind
  rw [hk]
  generalize (s.X - a.X) * (b.X - a.X) + (s.Y - a.Y) * (b.Y - a.Y) = al at *
  by_cases c1 : al ≤ 0
  · rw [if_pos c1, if_pos c1]
    exact ⟨_, rfl, rfl, ⟨by simp only; omega, by simp only; omega⟩, by simp only; omega, by simp only; omega⟩
  · rw [if_neg c1, if_neg c1]
    by_cases c2 : sqG a b ≤ al
    · rw [if_pos c2, if_pos (by omega)]
      exact ⟨_, rfl, rfl, ⟨by simp only; omega, by simp only; omega⟩, by simp only; omega, by simp only; omega⟩
    · rw [if_neg c2, if_neg (by omega), w64_in (x := sd (GS a) (GS b) (GS s) * sd (GS a) (GS b) (GS s)) (by omega) (by omega)]
      obtain ⟨f, f1, f2, f3⟩ := Fraction_B (n := sd (GS a) (GS b) (GS s) * sd (GS a) (GS b) (GS s)) (d := sqG a b) (by omega) (by omega)
      rw [f1, f2]
      exact ⟨f, rfl, rfl, f3⟩
theorem ltF_irr (f : Fraction) : ltF f f = false := by unfold ltF; simp
theorem farOf_loop {l : List Spot} (hS : ∀ x ∈ l, SB x) (hl : l.length ≤ 100000) {s : Spot} (hs : SB s) : ∀ (m i : Nat) (f : Fraction) (x1 x2 x3 x4 : Int), i + m = l.length → FrB f → ∃ r, FrB r ∧ place_edges_f1x_place_farOf_1x_l1 l s f.Num f.Den (i : Int) = some (false, r) ∧ Q_FarOf_l1 l s x1 x2 x3 x4 f.Num f.Den (i : Int) = some r := by
  intro m
  induction m with
  | zero =>
    intro i f x1 x2 x3 x4 hi hf
    obtain rfl : i = l.length := by omega
    unfold place_edges_f1x_place_farOf_1x_l1 Q_FarOf_l1
    refine ⟨f, hf, ?_, ?_⟩
    · rw [iter_eq, place_edges_f1x_place_farOf_1x_b1, if_neg (by simp only; omega), map_inr_after]
    · rw [iter_eq, Q_FarOf_b1, if_neg (by simp only; omega), map_inr_after]
  | succ m ih =>
    intro i f x1 x2 x3 x4 hi hf
    have hil : i < l.length := by omega
    obtain ⟨a, b, a1, a2, a3, a4, a5, a6, a7⟩ := edge_at l hil hl
    have qe : Q_edge l (i : Int) = some (a, b) := by unfold Q_edge; rw [a1, a2]; simp only [Option.bind_some]; rw [a3]; rfl
    obtain ⟨g, g1, g2, g3⟩ := far_eq (hS a a6) (hS b a7) hs
    have hlt := less_eq g3 hf
    have hqt := Qless_eq g3 hf
    obtain ⟨r, r1, r2, r3⟩ := ih (i + 1) (if ltF g f = true then g else f) a.X a.Y b.X b.Y (by omega) (by split <;> assumption)
    refine ⟨r, r1, ?_, ?_⟩
    · unfold place_edges_f1x_place_farOf_1x_l1 at r2 ⊢
      rw [iter_eq, place_edges_f1x_place_farOf_1x_b1, if_pos (by simp only; omega)]
      simp only [a1, a2, a3, Option.bind_some]
      unfold place_farOf_1x place_farOf_1x_j1 place_farOf_1x_j2
      rw [g1]
      simp only [Option.bind_some]
      have hn : ¬ f.Num < 0 := by unfold FrB at hf; omega
      rw [show place_less g (⟨f.Num, f.Den⟩ : Fraction) = ltF g f from hlt, decide_eq_false hn, Bool.false_or, w64_in (by omega) (by omega)]
      cases hc : ltF g f with
      | true =>
        rw [hc] at r2
        simpa using r2
      | false =>
        rw [hc] at r2
        simpa using r2
    · unfold Q_FarOf_l1 at r3 ⊢
      rw [iter_eq, Q_FarOf_b1, if_pos (by simp only; omega)]
      simp only [qe, g2, Option.bind_some]
      rw [show Q_less g (⟨f.Num, f.Den⟩ : Fraction) = some (ltF g f) from hqt]
      simp only [Option.bind_some]
      unfold Q_FarOf_j1
      rw [w64_in (by omega) (by omega)]
      cases hc : ltF g f with
      | true =>
        rw [hc] at r3
        simpa using r3
      | false =>
        rw [hc] at r3
        simpa using r3
theorem farOf_eq {l : List Spot} (hr : Right l) {s : Spot} (hs : SB s) : ∃ f, place_farOf l s = some f ∧ Q_FarOf l s = some f ∧ FrB f := by
  have hlo := hr.lo
  have hhi := hr.hi
  obtain ⟨a, b, a1, a2, a3, a4, a5, a6, a7⟩ := edge_at l (show 0 < l.length by omega) (by omega)
  have qe : Q_edge l ((0 : Nat) : Int) = some (a, b) := by unfold Q_edge; rw [a1, a2]; simp only [Option.bind_some]; rw [a3]; rfl
  obtain ⟨g, g1, g2, g3⟩ := far_eq (hr.sb a a6) (hr.sb b a7) hs
  obtain ⟨r, r1, r2, r3⟩ := farOf_loop hr.sb (by omega) hs (l.length - 1) 1 g a.X a.Y b.X b.Y (by omega) g3
  refine ⟨r, ?_, ?_, r1⟩
  · unfold place_farOf place_edges_f1x_place_farOf_1x
    have e : place_edges_f1x_place_farOf_1x_l1 l s (-1) 0 0 = some (false, r) := by
      unfold place_edges_f1x_place_farOf_1x_l1 at r2 ⊢
      rw [show (-1, 0, 0) = ((-1 : Int), (0 : Int), ((0 : Nat) : Int)) from rfl, iter_eq, place_edges_f1x_place_farOf_1x_b1, if_pos (by simp only; omega)]
      simp only [a1, a2, a3, Option.bind_some]
      unfold place_farOf_1x place_farOf_1x_j1 place_farOf_1x_j2
      rw [g1]
      simp only [Option.bind_some]
      rw [decide_eq_true (show (-1 : Int) < 0 by omega), Bool.true_or, w64_in (by omega) (by omega)]
      simpa using r2
    simp only [e, Option.bind_some]
  · unfold Q_FarOf
    have qe' : Q_edge l 0 = some (a, b) := qe
    rw [qe']
    simp only [Option.bind_some, g2]
    unfold Q_FarOf_l1 at r3 ⊢
    rw [show (a.X, a.Y, b.X, b.Y, g.Num, g.Den, (0 : Int)) = (a.X, a.Y, b.X, b.Y, g.Num, g.Den, ((0 : Nat) : Int)) from rfl, iter_eq, Q_FarOf_b1, if_pos (by simp only; omega)]
    simp only [qe, g2, Option.bind_some]
    rw [show Q_less g (⟨g.Num, g.Den⟩ : Fraction) = some (ltF g g) from Qless_eq g3 g3, ltF_irr]
    simp only [Option.bind_some, Bool.false_eq_true, if_false]
    unfold Q_FarOf_j1
    rw [w64_in (by omega) (by omega)]
    simpa using r3
def FixR (x : Fix) : Prop := SB (⟨x.X, x.Y⟩ : Spot) ∧ (0 ≤ x.Error ∧ x.Error ≤ 10000) ∧ (0 ≤ x.At ∧ x.At ≤ 345686399999)
theorem surely_eq {f : FenceS} (hr : Right f.Corners) {x : Fix} (hx : FixR x) : ∃ v, place_surely f.Corners x = some v ∧ Q_SurelyOf f x = some v := by
  obtain ⟨hs, he, _⟩ := hx
  have hhi := hr.hi
  unfold place_surely Q_SurelyOf
  rw [show Q_spotOf x = (⟨x.X, x.Y⟩ : Spot) from rfl, where_eq hr hs, WhereOf_eq hr.sb (by omega) hs]
  simp only [Option.bind_some]
  unfold place_surely_j1 Q_SurelyOf_j1
  split
  · exact ⟨_, rfl, rfl⟩
  · obtain ⟨g, g1, g2, g3⟩ := farOf_eq hr hs
    have hm := mul_bd (a := x.Error) (b := x.Error) (A := 10000) (B := 10000) (by omega) (by omega) (by omega) (by omega)
    have hn := sq_nn x.Error
    have hE : FrB (⟨w64 (x.Error * x.Error), 1⟩ : Fraction) := by
      rw [w64_in (by omega) (by omega)]
      exact ⟨by simp only; omega, by simp only; omega⟩
    rw [g1, g2]
    simp only [Option.bind_some]
    rw [less_eq hE g3, Qless_eq hE g3]
    simp only [Option.bind_some]
    cases ltF (⟨w64 (x.Error * x.Error), 1⟩ : Fraction) g <;> exact ⟨_, rfl, rfl⟩
theorem fixR_of {x : Fix} {p : Option Fix} (h : fixStep p x = 0) : FixR x := by
  unfold fixStep at h
  by_cases hk : keyB x.Device = false
  · rw [if_pos hk] at h; omega
  · rw [if_neg hk] at h
    by_cases hb : fbad x = true
    · rw [if_pos hb] at h; omega
    · unfold fbad spotX at hb
      simp only [Bool.not_eq_true, Bool.or_eq_false_iff, Bool.not_eq_false', Bool.and_eq_true, decide_eq_true_eq, decide_eq_false_iff_not] at hb
      obtain ⟨h1, ⟨h2, h3⟩, h4⟩ := hb
      exact ⟨⟨h2, h3⟩, by omega, h1⟩
theorem scan_R : ∀ {xs : List Fix} {p : Option Fix}, scanC fixStep p xs = 0 → ∀ x ∈ xs, FixR x
  | [], _, _, x, hx => by simp at hx
  | s :: r, p, h, x, hx => by
    simp only [scanC] at h
    by_cases h0 : fixStep p s = 0
    · rw [if_pos h0] at h
      rcases List.mem_cons.1 hx with rfl | hx
      · exact fixR_of h0
      · exact scan_R h x hx
    · rw [if_neg h0] at h; exact absurd h h0
theorem chkX_R {xs : List Fix} (h : chkX xs = 0) : (∀ x ∈ xs, FixR x) ∧ xs.length ≤ 2000 := by
  unfold chkX at h
  split at h
  · omega
  · exact ⟨scan_R h, by omega⟩
end Go.Beacon
