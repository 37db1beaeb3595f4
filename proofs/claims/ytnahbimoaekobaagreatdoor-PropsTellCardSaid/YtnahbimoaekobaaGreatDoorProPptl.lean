/- PropsTell but for its generators. No program in sight. -/
import Derived.Test.YtnahbimoaekobaaGreatDoorProPun2
import Derived.Test.YtnahbimoaekobaaGreatDoorProPok
set_option linter.unusedVariables false
set_option linter.unusedSimpArgs false
namespace Go.Beacon
open Go Go.Eng

theorem when_errs (x : Int) (c : Bool) : L_errs [x, L_when c 5] = some (if x ≠ 0 then x else if c = true then 5 else 0) := by
  rw [show L_errs [x, L_when c 5] = some (orL [x, L_when c 5]) from gOr_eq _ (by simp)]
  unfold L_when
  congr 1
  by_cases hx : x = 0
  · subst hx; cases c <;> rfl
  · simp [orL, hx]
theorem PropsTell_of (L : List Int) (hP : ∀ s : Stm, SOk s 1000 → Gen (Stream_Props s) 100 PB) (hN : ∀ s : Stm, SOk s 100 → Gen (Stream_PropName s) 0 (fun t => t.length ≤ 1000)) (hT : L_twinned = some true) : L_PropsTell L = some true := by
  have key : Ok (L_PropsTell L) (fun r => r = true) := by
    unfold L_PropsTell
    refine Ok.gen (hP _ ⟨by simp, by simp⟩) (fun l s1 hb q1 => ?_)
    refine Ok.gen (hN _ q1) (fun t s2 ht q2 => ?_)
    dsimp only
    obtain ⟨r, h1, h2, h3⟩ := CheckProps_eq l hb
    have hl := hb.1
    by_cases hr : r = 0
    · subst hr
      obtain ⟨hu, hl5⟩ := h3 rfl
      obtain ⟨v, g1, g2⟩ := valueOf_eq l hl hu t
      have hfl : (l.filter (undB t)).length ≤ 1000 := Nat.le_trans (List.length_filter_le _ _) hl
      have heq : slices_Equal_Prop_Prop (l.filter (undB t)) (l.filter (undB t)) = some true := by
        rw [show slices_Equal_Prop_Prop (l.filter (undB t)) (l.filter (undB t)) = some (decide (l.filter (undB t) = l.filter (undB t))) from gEqual_eq _ _ (by omega)]; simp
      by_cases hd : dotB 8 t = true
      · have hG : twin_Get l t = some (v, 0) := by
          unfold twin_Get; rw [h1]; simp only [Option.bind_some]; rw [if_neg (by simp), isName_eq (by omega)]; simp only [Option.bind_some]; rw [if_neg (by simp [hd]), g1]; rfl
        have hU : twin_Under l t = some (l.filter (undB t), 0) := by
          unfold twin_Under; rw [h1]; simp only [Option.bind_some]; rw [if_neg (by simp), isName_eq (by omega)]; simp only [Option.bind_some]; rw [if_neg (by simp [hd]), under_loop l hl t]
        rw [hG, hU, h1, h2, QPropName_eq (by omega)]
        simp only [Option.bind_some]
        rw [if_neg (by simp), when_errs]
        simp only [Option.bind_some, hd]
        rw [g2, UnderOf_eq l hl t (by omega)]
        simp only [Option.bind_some, heq, hT]
        refine ⟨true, ?_, rfl⟩
        simp [L_PropsTell_j2]
      · have hd' : dotB 8 t = false := by simpa using hd
        have hG : twin_Get l t = some (⟨0, false, 0, []⟩, 5) := by
          unfold twin_Get; rw [h1]; simp only [Option.bind_some]; rw [if_neg (by simp), isName_eq (by omega)]; simp only [Option.bind_some]; rw [if_pos (by simp [hd'])]
        have hU : twin_Under l t = some ([], 5) := by
          unfold twin_Under; rw [h1]; simp only [Option.bind_some]; rw [if_neg (by simp), isName_eq (by omega)]; simp only [Option.bind_some]; rw [if_pos (by simp [hd'])]
        rw [hG, hU, h1, h2, QPropName_eq (by omega)]
        simp only [Option.bind_some]
        rw [if_neg (by simp), when_errs]
        simp only [Option.bind_some, hd', hT]
        refine ⟨true, ?_, rfl⟩
        simp [L_PropsTell_j1]
    · have hG : twin_Get l t = some (⟨0, false, 0, []⟩, r) := by
        unfold twin_Get; rw [h1]; simp only [Option.bind_some]; rw [if_pos hr]
      have hU : twin_Under l t = some ([], r) := by
        unfold twin_Under; rw [h1]; simp only [Option.bind_some]; rw [if_pos hr]
      rw [hG, hU, h1, h2, QPropName_eq (by omega)]
      simp only [Option.bind_some]
      rw [if_neg (by simp), when_errs]
      simp only [Option.bind_some, hT]
      refine ⟨true, ?_, rfl⟩
      simp [L_PropsTell_j1, hr]
  obtain ⟨r, h1, rfl⟩ := key
  exact h1
end Go.Beacon
