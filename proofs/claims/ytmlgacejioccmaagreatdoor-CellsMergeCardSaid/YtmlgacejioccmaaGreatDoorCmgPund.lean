/- Values and properties under a name. No program in sight. -/
import Derived.Test.YtmlgacejioccmaaGreatDoorCmgPck2
set_option linter.unusedVariables false
set_option linter.unusedSimpArgs false
namespace Go.Beacon
open Go Go.Eng

theorem sn_unique {l : List PropS} (h : SN l) {p q : PropS} (hp : p ∈ l) (hq : q ∈ l) (he : p.Name = q.Name) : p = q := by
  obtain ⟨i, hi, rfl⟩ := List.getElem_of_mem hp
  obtain ⟨j, hj, rfl⟩ := List.getElem_of_mem hq
  have irr : ∀ a : Str, ¬ Lib.compareBytes a a < 0 := fun a => by have := cmpB_neg a a; omega
  rcases Nat.lt_trichotomy i j with c | c | c
  · have := List.pairwise_iff_getElem.1 h i j hi hj c
    rw [he] at this; exact absurd this (irr _)
  · subst c; rfl
  · have := List.pairwise_iff_getElem.1 h j i hj hi c
    rw [he] at this; exact absurd this (irr _)
/-- At a name or below it. -/
def undB (s : Str) (p : PropS) : Bool := decide (p.Name = s) || abvB s p.Name
end Go.Beacon
