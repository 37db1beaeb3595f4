/- Checking properties: the program and the reference tell the same. No program in sight. -/
import Derived.Test.YtmlgacejioccmaaGreatDoorCmgPabv
set_option linter.unusedVariables false
set_option linter.unusedSimpArgs false
namespace Go.Beacon
open Go Go.Eng

/-- Two loops side by side. -/
theorem iter_two {S A : Type} (f f' : S → Option (S ⊕ A)) (m : S → Nat) (Inv : S → Prop) (R : A → Prop)
    (h : ∀ s, Inv s → (∃ s', f s = some (.inl s') ∧ f' s = some (.inl s') ∧ Inv s' ∧ m s' < m s) ∨ (∃ a, f s = some (.inr a) ∧ f' s = some (.inr a) ∧ R a)) :
    ∀ (n : Nat) s, m s < n → Inv s → ∃ a, iter f s = some a ∧ iter f' s = some a ∧ R a
  | 0, s, hm, hi => by omega
  | n + 1, s, hm, hi => by
    rw [iter_eq f, iter_eq f']
    rcases h s hi with ⟨s', h1, h2, h3, h4⟩ | ⟨a, h1, h2, h3⟩
    · rw [h1, h2]
      exact iter_two f f' m Inv R h n s' (by omega) h3
    · rw [h1, h2]
      exact ⟨a, rfl, rfl, h3⟩
/-- Properties that may be checked. -/
def PB (l : List PropS) : Prop := l.length ≤ 1000 ∧ ∀ p ∈ l, p.Name.length ≤ 100000 ∧ p.Value.Words.length ≤ 100000
theorem has_eq (l : List PropS) (hl : l.length ≤ 1000) (hu : SN l) (s : Str) : twin_CheckProps_1x s l = some (l.any fun q => decide (q.Name = s)) := by
  obtain ⟨r, h1, h2⟩ := find_eq l hl hu s
  unfold twin_CheckProps_1x
  rw [h1]
  simp only [Option.bind_some, Option.some.injEq]
  rw [Bool.eq_iff_iff, decide_eq_true_eq, List.any_eq_true]
  rcases h2 with ⟨p, g1, g2, g3⟩ | ⟨rfl, g⟩
  · exact ⟨fun _ => ⟨p, idx_mem g2, by simp [g3]⟩, fun _ => g1⟩
  · constructor
    · intro h; omega
    · rintro ⟨p, hp, he⟩; exact absurd (by simpa using he) (g p hp)
end Go.Beacon
