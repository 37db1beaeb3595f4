/- Values and properties under a name. No program in sight. -/
import Derived.Test.YtnahbimoaekobaaGreatDoorSidPck2
set_option linter.unusedVariables false
set_option linter.unusedSimpArgs false
namespace Go.Beacon
open Go Go.Eng

theorem sn_unique {l : List PropS} (h : SN l) {p q : PropS} (hp : p ∈ l) (hq : q ∈ l) (he : p.Name = q.Name) : p = q := by
  obtain ⟨i, hi, rfl⟩ := List.getElem_of_mem hp
  obtain ⟨j, hj, rfl⟩ := List.getElem_of_mem hq
  have irr : ∀ a : Str, ¬ Lib.compareBytes a a < 0 := fun a => by have := cmpB_neg a a; omega
  rcases Nat.lt_trichotomy i j with c | c | c
  · have := List.pairwise_iff_getElem.1 h i j hi hj c
    rw [he] at this; exact absurd this (irr _)
  · subst c; rfl
  · have := List.pairwise_iff_getElem.1 h j i hj hi c
    rw [he] at this; exact absurd this (irr _)
theorem valueOf_eq (l : List PropS) (hl : l.length ≤ 1000) (hu : SN l) (s : Str) : ∃ r, twin_valueOf l s = some r ∧ Q_ValueOf l s = some r := by
  have hQ : Q_ValueOf l s = some (findE (fun p : PropS => if p.Name = s then some p.Value else none) (⟨0, false, 0, []⟩ : ValueS) l) := by
    unfold Q_ValueOf Q_ValueOf_l1
    rw [iter_find l (fun x : Int => Q_ValueOf_b1 l s x) (fun p : PropS => if p.Name = s then some p.Value else none) (⟨0, false, 0, []⟩ : ValueS) (by omega)]
    · intro i x h0 h1 hx
      rw [Q_ValueOf_b1, if_pos h1, hx]
      simp only [Option.bind_some]
      by_cases c : x.Name = s
      · rw [if_pos c, if_pos c]; rfl
      · rw [if_neg c, if_neg c, w64_in (by omega) (by omega)]
    · rw [Q_ValueOf_b1, if_neg (by omega)]; rfl
  refine ⟨_, ?_, hQ⟩
  obtain ⟨r, h1, h2⟩ := find_eq l hl hu s
  unfold twin_valueOf
  rw [h1]
  simp only [Option.bind_some]
  rcases h2 with ⟨p, g0, g1, g2⟩ | ⟨rfl, g⟩
  · rw [if_pos g0, g1]
    simp only [Option.bind_some, Option.some.injEq]
    have hp := idx_mem g1
    have : ∀ X : List PropS, p ∈ X → (∀ q ∈ X, q.Name = s → q = p) → p.Value = findE (fun p : PropS => if p.Name = s then some p.Value else none) (⟨0, false, 0, []⟩ : ValueS) X := by
      intro X
      induction X with
      | nil => intro h; cases h
      | cons y Y ih =>
        intro hm hun
        unfold findE
        by_cases c : y.Name = s
        · rw [if_pos c]; rw [hun y (by simp) c]
        · rw [if_neg c]
          refine ih ?_ (fun q hq => hun q (by simp [hq]))
          rcases List.mem_cons.1 hm with e | e
          · subst e; exact absurd g2 c
          · exact e
    exact this l hp (fun q hq he => sn_unique hu hq hp (by rw [he, g2]))
  · rw [if_neg (by omega)]
    congr 1
    have : ∀ X : List PropS, (∀ q ∈ X, q.Name ≠ s) → (⟨0, false, 0, []⟩ : ValueS) = findE (fun p : PropS => if p.Name = s then some p.Value else none) (⟨0, false, 0, []⟩ : ValueS) X := by
      intro X
      induction X with
      | nil => intro _; rfl
      | cons y Y ih =>
        intro hun
        unfold findE
        rw [if_neg (hun y (by simp))]
        exact ih (fun q hq => hun q (by simp [hq]))
    exact this l g
/-- At a name or below it. -/
def undB (s : Str) (p : PropS) : Bool := decide (p.Name = s) || abvB s p.Name
end Go.Beacon
