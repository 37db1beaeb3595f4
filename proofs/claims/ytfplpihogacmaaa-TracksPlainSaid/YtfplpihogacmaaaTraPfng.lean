/- Fences and spots that are drawn. No program in sight. -/
import Derived.Test.YtfplpihogacmaaaTraPpld
set_option linter.unusedVariables false
set_option linter.unusedSimpArgs false
namespace Go.Beacon
open Go Go.Eng

theorem Place_ok {s : Stm} {k : Int} (hs : SOk s (k + 2)) (hk : 0 ≤ k) : Gen (Stream_Place s) k (fun p => (-5 ≤ p.X ∧ p.X ≤ 20) ∧ (-5 ≤ p.Y ∧ p.Y ≤ 20)) := by
  unfold Stream_Place
  refine Gen.bind (Pick_ok (k := k + 1) (hs.less (by omega)) (by simp) (by simp) (by omega)) (fun a s1 ha hs1 => ?_)
  refine Gen.bind (Pick_ok (k := k) (hs1.less (by omega)) (by simp) (by simp) (by omega)) (fun b s2 hb hs2 => ?_)
  exact Gen.ret ⟨pick_le ha (by decide), pick_le hb (by decide)⟩ hs2
def LenB (l : List Spot) : Prop := 3 ≤ l.length ∧ l.length ≤ 10
theorem isSpot_b (s : Spot) : place_isSpot s = decide (Q_SpotFault s = 0) := by
  by_cases h : SB s
  · rw [(isSpot_eq s).2 h, (SpotFault_eq s).1 h]; rfl
  · rw [(SpotFault_eq s).2 h]
    cases hb : place_isSpot s with
    | false => rfl
    | true => exact absurd ((isSpot_eq s).1 hb) h
theorem SB_of {s : Spot} (h : Q_SpotFault s = 0) : SB s := by
  by_cases k : SB s
  · exact k
  · rw [(SpotFault_eq s).2 k] at h; omega
theorem spotF_v (s : Spot) : Q_SpotFault s = 0 ∨ Q_SpotFault s = 1 := by
  by_cases h : SB s
  · exact .inl ((SpotFault_eq s).1 h)
  · exact .inr ((SpotFault_eq s).2 h)
theorem placedL_eq : L_placed = some true := by
  have hc : place_Cell ⟨0, 0⟩ 1 = some ([51], 0) := by
    unfold place_Cell
    have e : ((!(place_isSpot (⟨0, 0⟩ : Spot))) || base_Out 1 0 15) = false := by
      unfold place_isSpot place_isSpot_j1
      simp only [Out_eq]; decide
    rw [e]
    unfold place_Cell_j1
    rw [if_neg (by simp)]
    unfold place_Cell_l1
    rw [iter_eq, place_Cell_b1, if_pos (by decide), w64_in (by decide) (by decide), w64_in (by decide) (by decide), quo_pos (by decide) (by decide) (by decide)]
    simp only [Option.bind_some]
    rw [app_le (by simp)]
    simp only [Option.bind_some, after_inl]
    rw [iter_eq, place_Cell_b1, if_neg (by decide), map_inr_after]
    decide
  unfold L_placed L_placed_j1
  rw [hc]
  decide
end Go.Beacon
