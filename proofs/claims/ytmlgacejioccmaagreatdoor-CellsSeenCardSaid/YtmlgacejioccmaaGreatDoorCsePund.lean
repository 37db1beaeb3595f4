/- Values and properties under a name. No program in sight. -/
import Derived.Test.YtmlgacejioccmaaGreatDoorCsePck2
set_option linter.unusedVariables false
set_option linter.unusedSimpArgs false
namespace Go.Beacon
open Go Go.Eng

theorem sn_unique {l : List PropS} (h : SN l) {p q : PropS} (hp : p ∈ l) (hq : q ∈ l) (he : p.Name = q.Name) : p = q := by
  obtain ⟨i, hi, rfl⟩ := List.getElem_of_mem hp
  obtain ⟨j, hj, rfl⟩ := List.getElem_of_mem hq
  have irr : ∀ a : Str, ¬ Lib.compareBytes a a < 0 := fun a => by have := cmpB_neg a a; omega
  rcases Nat.lt_trichotomy i j with c | c | c
  · have := List.pairwise_iff_getElem.1 h i j hi hj c
    rw [he] at this; exact absurd this (irr _)
  · subst c; rfl
  · have := List.pairwise_iff_getElem.1 h j i hj hi c
    rw [he] at this; exact absurd this (irr _)
/-- At a name or below it. -/
def undB (s : Str) (p : PropS) : Bool := decide (p.Name = s) || abvB s p.Name
theorem Below_eq (a b : Str) : base_Below a b = some (abvB b a) := by
  have e : (decide (a[b.length]? = some (46 : UInt8)) && decide (a.take b.length = b)) = abvB b a := by
    rw [Bool.eq_iff_iff, abv_iff]
    constructor
    · intro h
      have h' : a[b.length]? = some (46 : UInt8) ∧ a.take b.length = b := by simpa using h
      exact ⟨b.length, h'⟩
    · rintro ⟨i, h1, rfl⟩
      have hi := (List.getElem?_eq_some_iff.1 h1).1
      have : (a.take i).length = i := by simp; omega
      rw [this]; simp [h1]
  unfold base_Below
  rw [← e]
  by_cases h : (b.length : Int) < a.length
  · obtain ⟨c, hc, _, _⟩ := idx_lt a (i := (b.length : Int)) (by omega) h
    have hc' := (idx_some hc).2.2
    have hc2 : a[b.length]? = some c := by simpa using hc'
    rw [if_pos h, hc]
    simp only [Option.bind_some]
    by_cases h46 : (c.toNat : Int) = 46
    · have hc46 : c = 46 := UInt8.toNat_inj.1 (by show c.toNat = 46; omega)
      rw [if_pos h46, slc_in (by omega) (by omega) (by omega)]
      simp only [Option.bind_some, base_Below_j1]
      rw [hc2, hc46]; simp
    · rw [if_neg h46]
      have : ¬ c = 46 := fun e => h46 (by rw [e]; rfl)
      rw [hc2]; simp [base_Below_j1, this]
  · rw [if_neg h, List.getElem?_eq_none (by omega)]; simp [base_Below_j1]
end Go.Beacon
