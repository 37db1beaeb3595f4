/- Properties: the checks of the program and of the reference. No program in sight. -/
import Derived.Test.YtmlgacejioccmaaGreatDoorCmgPdot
import Derived.Test.YtmlgacejioccmaaGreatDoorCmgPmar
set_option linter.unusedVariables false
set_option linter.unusedSimpArgs false
namespace Go.Beacon
open Go Go.Eng

theorem vf_j1 (v : ValueS) (c : Bool) (n : Int) (q : Str) (h : v.Words.length ≤ 1000000) : twin_valueFault_j1 v c n q = Q_ValueFault_j1 v c n q := by
  unfold twin_valueFault_j1 Q_ValueFault_j1
  rw [Out_not_in, Unmarked_eq _ h, Printed_eq _ h]
  by_cases e : v = ⟨v.Kind, c, n, q⟩
  · have e1 : ¬ (v ≠ (⟨v.Kind, c, n, q⟩ : ValueS)) := fun z => z e
    have e2 : ¬ ((⟨v.Kind, c, n, q⟩ : ValueS) ≠ v) := fun z => z e.symm
    rw [if_neg e1, if_neg e2]
  · have e1 : v ≠ (⟨v.Kind, c, n, q⟩ : ValueS) := e
    have e2 : (⟨v.Kind, c, n, q⟩ : ValueS) ≠ v := fun z => e z.symm
    rw [if_pos e1, if_pos e2]
theorem valueFault_eq (v : ValueS) (h : v.Words.length ≤ 1000000) : twin_valueFault v = Q_ValueFault v := by
  unfold twin_valueFault Q_ValueFault twin_valueFault_j3 twin_valueFault_j2 Q_ValueFault_j3 Q_ValueFault_j2
  rw [Qin_eq]
  by_cases h0 : v.Kind = 0
  · rw [if_pos h0, h0, vf_j1 _ _ _ _ h]; simp
  by_cases h1 : v.Kind = 1
  · rw [if_neg h0, if_pos h1, h1, vf_j1 _ _ _ _ h]; simp
  by_cases h2 : v.Kind = 2
  · rw [if_neg h0, if_neg h1, if_pos h2, h2, vf_j1 _ _ _ _ h]; simp
  by_cases h3 : v.Kind = 3
  · rw [if_neg h0, if_neg h1, if_neg h2, if_pos h3, h3, vf_j1 _ _ _ _ h]; simp
  · rw [if_neg h0, if_neg h1, if_neg h2, if_neg h3, if_pos]
    simp; omega
end Go.Beacon
