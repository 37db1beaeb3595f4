/- Fences: CheckFence is FenceFault, where is WhereOf. No program in sight. -/
import Derived.Test.YtfplpihogacmaaaTraPplc
set_option linter.unusedVariables false
set_option linter.unusedSimpArgs false
namespace Go.Beacon
open Go Go.Eng

/-- The first fault of the corners by themselves. -/
noncomputable def cornF (l : List Spot) (i : Nat) : Option Int := match l[i]? with
  | none => none
  | some s => open Classical in if ¬ SB s then some 1 else if s ∈ l.take i then some 6 else none
theorem corn_ok {l : List Spot} (h : firstG (cornF l) 0 l.length = none) : (∀ x ∈ l, SB x) ∧ Dist l := by
  have h' : ∀ i, i < l.length → cornF l i = none := fun i hi => firstG_none.1 h i (by omega) (by omega)
  have key : ∀ i (hi : i < l.length), SB l[i] ∧ l[i] ∉ l.take i := by
    intro i hi
    have := h' i hi
    unfold cornF at this
    simp only [List.getElem?_eq_getElem hi] at this
    by_cases h1 : SB l[i]
    · by_cases h2 : l[i] ∈ l.take i
      · simp [h1, h2] at this
      · exact ⟨h1, h2⟩
    · simp [h1] at this
  constructor
  · intro x hx
    obtain ⟨i, hi, he⟩ := List.getElem_of_mem hx
    rw [← he]; exact (key i hi).1
  · have half : ∀ i j, i < j → j < l.length → pl l i ≠ pl l j := by
      intro i j hij hj e
      rw [← pl_at (show i < l.length by omega), ← pl_at hj, ← GS_inj] at e
      refine (key j hj).2 ?_
      rw [← e]
      rw [List.mem_take_iff_getElem]
      exact ⟨i, by omega, rfl⟩
    intro i j hi hj e
    rcases Nat.lt_trichotomy i j with k | k | k
    · exact absurd e (half i j k hj)
    · exact k
    · exact absurd e.symm (half j i k hi)
/-- What is wrong with corners. -/
noncomputable def cornE (l : List Spot) : Int := open Classical in
  if l.length < 3 then 3 else if 200 < l.length then 2 else match firstG (cornF l) 0 l.length with
  | some e => e
  | none => if ∃ i, 0 ≤ i ∧ i < l.length ∧ ∃ k, 0 ≤ k ∧ k < l.length ∧ k ≠ i ∧ badQ l i k then 13 else 0
/-- A right fence. -/
structure Right (l : List Spot) : Prop where
  lo : 3 ≤ l.length
  hi : l.length ≤ 200
  sb : ∀ x ∈ l, SB x
  simple : Simple (pl l) (l.length - 3)
theorem cornE_right {l : List Spot} (h : cornE l = 0) : Right l := by
  unfold cornE at h
  by_cases h1 : l.length < 3
  · rw [if_pos h1] at h; omega
  · rw [if_neg h1] at h
    by_cases h2 : 200 < l.length
    · rw [if_pos h2] at h; omega
    · rw [if_neg h2] at h
      cases hg : firstG (cornF l) 0 l.length with
      | some e =>
        rw [hg] at h
        simp only at h
        obtain ⟨j, _, _, hj⟩ := firstG_some hg
        unfold cornF at hj
        cases hx : l[j]? with
        | none => rw [hx] at hj; simp at hj
        | some x =>
          rw [hx] at hj
          simp only at hj
          subst h
          split at hj
          · simp at hj
          · split at hj
            · simp at hj
            · simp at hj
      | none =>
        rw [hg] at h
        simp only at h
        obtain ⟨hs, hd⟩ := corn_ok hg
        split at h
        · omega
        · rename_i hb
          exact ⟨by omega, by omega, hs, simple_of hd (by omega) hb⟩
/-! where a spot lies -/
noncomputable def whereE (l : List Spot) (s : Spot) : Int := open Classical in
  if ∃ i, i < l.length ∧ onS (pl l i) (pl l (i + 1)) (GS s) then 1 else if turns (pl l) l.length (GS s) ≠ 0 then 2 else 0
end Go.Beacon
