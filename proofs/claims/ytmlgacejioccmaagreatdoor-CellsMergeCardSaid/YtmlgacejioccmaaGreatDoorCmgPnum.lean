/- Plain facts: loops by a measure, products within bounds, quotients rounded down. No program in sight. -/
import Derived.Test.YtmlgacejioccmaaGreatDoorCmgPkey
set_option linter.unusedVariables false
set_option linter.unusedSimpArgs false
namespace Go.Beacon
open Go Go.Eng

/-- A loop whose rounds keep something and make a number smaller ends; what its last round tells holds. -/
theorem iter_inv {S A : Type} (f : S → Option (S ⊕ A)) (m : S → Nat) (Inv : S → Prop) (R : A → Prop)
    (h : ∀ s, Inv s → (∃ s', f s = some (.inl s') ∧ Inv s' ∧ m s' < m s) ∨ (∃ a, f s = some (.inr a) ∧ R a)) : ∀ s, Inv s → ∃ a, iter f s = some a ∧ R a := by
  have key : ∀ (n : Nat) s, m s ≤ n → Inv s → ∃ a, iter f s = some a ∧ R a := by
    intro n
    induction n with
    | zero =>
      intro s hm hi
      rcases h s hi with ⟨s', _, _, h3⟩ | ⟨a, h1, h2⟩
      · omega
      · exact ⟨a, by rw [iter_eq, h1]; rfl, h2⟩
    | succ n ih =>
      intro s hm hi
      rcases h s hi with ⟨s', h1, h2, h3⟩ | ⟨a, h1, h2⟩
      · obtain ⟨a, h4, h5⟩ := ih s' (by omega) h2
        exact ⟨a, by rw [iter_eq, h1]; simpa using h4, h5⟩
      · exact ⟨a, by rw [iter_eq, h1]; rfl, h2⟩
  exact fun s hi => key (m s) s (Nat.le_refl _) hi
/-- The same, for a result that may be missing. -/
theorem iter_to {S A : Type} (f : S → Option (S ⊕ A)) (m : S → Nat) (Inv : S → Prop) (r : Option A)
    (h : ∀ s, Inv s → (∃ s', f s = some (.inl s') ∧ Inv s' ∧ m s' < m s) ∨ f s = r.map .inr) : ∀ s, Inv s → iter f s = r := by
  have key : ∀ (n : Nat) s, m s ≤ n → Inv s → iter f s = r := by
    intro n
    induction n with
    | zero =>
      intro s hm hi
      rcases h s hi with ⟨s', _, _, h3⟩ | h1
      · omega
      · rw [iter_eq, h1, map_inr_after]
    | succ n ih =>
      intro s hm hi
      rcases h s hi with ⟨s', h1, h2, h3⟩ | h1
      · rw [iter_eq, h1]; simpa using ih s' (by omega) h2
      · rw [iter_eq, h1, map_inr_after]
  exact fun s hi => key (m s) s (Nat.le_refl _) hi
theorem u64_in {x : Int} (h0 : 0 ≤ x) (h1 : x ≤ 9223372036854775807) : IntKind.u64.wrap x = x := by
  unfold IntKind.wrap
  simp [IntKind.bits, IntKind.signed]
  omega
theorem u8_in {x : Int} (h0 : 0 ≤ x) (h1 : x ≤ 255) : IntKind.u8.wrap x = x := by
  unfold IntKind.wrap
  simp [IntKind.bits, IntKind.signed]
  omega
theorem mul_bd {a b A B : Int} (h1 : -A ≤ a) (h2 : a ≤ A) (h3 : -B ≤ b) (h4 : b ≤ B) : -(A * B) ≤ a * b ∧ a * b ≤ A * B := by
  have hn : (a * b).natAbs ≤ (A * B).natAbs := by
    rw [Int.natAbs_mul, Int.natAbs_mul]
    exact Nat.mul_le_mul (by omega) (by omega)
  have hp : 0 ≤ A * B := Int.mul_nonneg (by omega) (by omega)
  omega
theorem tdiv_bd {a b : Int} (hb : 0 < b) (ha : -9000000000000000000 ≤ a ∧ a ≤ 9000000000000000000) : -9000000000000000000 ≤ a.tdiv b ∧ a.tdiv b ≤ 9000000000000000000 := by
  rcases Int.le_total 0 a with h | h
  · rw [Int.tdiv_eq_ediv_of_nonneg h]
    have := Int.ediv_nonneg h (Int.le_of_lt hb); have := Int.ediv_le_self b h; omega
  · have e : a.tdiv b = -((-a) / b) := by rw [← Int.tdiv_eq_ediv_of_nonneg (by omega), Int.neg_tdiv]; omega
    rw [e]
    have := Int.ediv_nonneg (a := -a) (by omega) (Int.le_of_lt hb); have := Int.ediv_le_self b (a := -a) (by omega); omega
theorem First_eq (xs : List Int) (h : (xs.length : Int) ≤ 4611686018427387904) : base_First xs = some (orL xs) := gOr_eq xs h
theorem p_ite {α β : Type} (c : Prop) [Decidable c] (x y : α × β) : (if c then x else y).1 = if c then x.1 else y.1 := by split <;> rfl
theorem orL3 (x y z : Int) : orL [x, y, z] = if orL [x, y] ≠ 0 then orL [x, y] else z := by
  by_cases h1 : x = 0 <;> by_cases h2 : y = 0 <;> by_cases h3 : z = 0 <;> simp [orL, h1, h2, h3]
theorem orL2 (x y : Int) : orL [x, y] = if x ≠ 0 then x else y := by
  by_cases h1 : x = 0 <;> by_cases h2 : y = 0 <;> simp [orL, h1, h2]
theorem orL2_zero {x y : Int} (h : orL [x, y] = 0) : x = 0 ∧ y = 0 := by
  by_cases h1 : x = 0
  · by_cases h2 : y = 0
    · exact ⟨h1, h2⟩
    · simp [orL, h1, h2] at h
  · simp [orL, h1] at h
end Go.Beacon
