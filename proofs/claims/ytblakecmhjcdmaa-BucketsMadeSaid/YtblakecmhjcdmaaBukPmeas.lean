/- Package series packs one measurement. No program in sight. -/
import Derived.Test.YtblakecmhjcdmaaBukPser
set_option linter.unusedVariables false
set_option linter.unusedSimpArgs false
namespace Go.Beacon
open Go Go.Eng
theorem seven_n_small (n : Int) (h : n < 128) : series_seven_n0x n = some [IntKind.u8.wrap n] := by
  unfold series_seven_n0x series_seven_n0x_l1
  rw [iter_eq, series_seven_n0x_b1, if_neg (by simp only; omega), map_inr_after]
  unfold series_seven_n0x_k1
  rw [app_le (by simp)]; rfl
theorem seven_o_small (l : List Int) (n : Int) (h : n < 128) (hl : l.length ≤ 1000000) : series_seven_o0x l n = some (l ++ [IntKind.u8.wrap n]) := by
  unfold series_seven_o0x series_seven_o0x_l1
  rw [iter_eq, series_seven_o0x_b1, if_neg (by simp only; omega), map_inr_after]
  unfold series_seven_o0x_k1
  rw [app_le (by simp; omega)]; rfl
theorem measured_eq : L_measured = some true := by
  unfold L_measured L_measured_j1 series_Pack
  have hc : chkS [⟨[100], [109], 1, 1⟩] = 0 := by decide
  rw [CheckSeries_eq, hc]
  simp only [Option.bind_some]
  have hp : series_pack [⟨[100], [109], 1, 1⟩] = some [1, 2, 2] := by
    unfold series_pack
    have e0 : IntKind.u64.wrap ((([⟨[100], [109], 1, 1⟩] : List Sample).length : Nat) : Int) = 1 := by decide
    have u1 : IntKind.u8.wrap 1 = 1 := by decide
    have u2 : IntKind.u8.wrap 2 = 2 := by decide
    have d1 : series_doubled (w64 (w64 (1 - 0) - 0)) = 2 := by decide
    have d2 : series_doubled (w64 (1 - 0)) = 2 := by decide
    have w1 : w64 (0 + 1) = 1 := by decide
    rw [e0, seven_n_small 1 (by omega), u1]
    simp only [Option.bind_some]
    unfold series_pack_l1
    rw [iter_eq, series_pack_b1, if_pos (by simp)]
    have i0 : idx ([⟨[100], [109], 1, 1⟩] : List Sample) 0 = some ⟨[100], [109], 1, 1⟩ := rfl
    simp only [i0, Option.bind_some]
    rw [d1, seven_o_small _ 2 (by omega) (by simp), u2]
    simp only [Option.bind_some]
    rw [d2, seven_o_small _ 2 (by omega) (by simp), u2]
    simp only [Option.bind_some]
    rw [if_neg (by omega)]
    unfold series_pack_j1
    simp only [Option.bind_some, after_inl, w1]
    rw [iter_eq, series_pack_b1, if_neg (by simp), map_inr_after]
    rfl
  rw [if_neg (by simp), hp]
  simp only [Option.bind_some, if_true]
  have h : slices_Equal_byte_byte [1, 2, 2] [1, 2, 2] = some (decide (([1, 2, 2] : List Int) = [1, 2, 2])) := gEqual_eq _ _ (by simp)
  rw [h]
  rfl
end Go.Beacon
